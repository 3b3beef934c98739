import Derived.Test.YtcfanlgpkefogaaGreatZe
import Derived.Test.YtcfanlgpkefogaaGreatMA
import Derived.Test.YtcfanlgpkefogaaGreatRows
namespace Go.Proofs.YtcfanlgpkefogaaGreat
open Go.RowKit V
theorem is_outside:FnIs Tryz.prog (66,Tryz.f66):=⟨Tryz.func66,by kernel_rfl,by kernel_rfl⟩
theorem is_divide:FnIs Tryz.prog (69,Tryz.f69):=⟨Tryz.func69,by kernel_rfl,by kernel_rfl⟩
theorem is_Divide:FnIs Tryz.prog (38,Tryz.f38):=⟨Tryz.func38,by kernel_rfl,by kernel_rfl⟩
theorem is_Root:FnIs Tryz.prog (61,Tryz.f61):=⟨Tryz.func61,by kernel_rfl,by kernel_rfl⟩
theorem is_root:FnIs Tryz.prog (67,Tryz.f67):=⟨Tryz.func67,by kernel_rfl,by kernel_rfl⟩
theorem is_Len64:FnIs Tryz.prog (110,Tryz.f110):=⟨Tryz.func110,by kernel_rfl,by kernel_rfl⟩
theorem is_fits:FnIs Tryz.prog (65,Tryz.f65):=⟨Tryz.func65,by kernel_rfl,by kernel_rfl⟩
theorem is_CheckDisc:FnIs Tryz.prog (155,Tryz.f155):=⟨Tryz.func155,by kernel_rfl,by kernel_rfl⟩
theorem is_square:FnIs Tryz.prog (68,Tryz.f68):=⟨Tryz.func68,by kernel_rfl,by kernel_rfl⟩
theorem is_Square:FnIs Tryz.prog (167,Tryz.f167):=⟨Tryz.func167,by kernel_rfl,by kernel_rfl⟩
theorem is_Towards:FnIs Tryz.prog (23,Tryz.f23):=⟨Tryz.func23,by kernel_rfl,by kernel_rfl⟩
theorem Bhj:FnIs Tryz.prog (43,Tryz.f43):=⟨Tryz.func43,by kernel_rfl,by kernel_rfl⟩
namespace V
abbrev cPt:TC:=.st [.i .i64,.i .i64]
abbrev Bag:TC:=.st [cPt,.i .i64]
end V
abbrev Bh8:PureT:=Bbe [cI,cI,cI] [.b] (fun _=>true) (fun x=>(Bb6 x.1 x.2.1 x.2.2.1,()))
theorem Cdj {a b c:Int}:(bif decide (a<b) then .leaf (true,()) else .leaf (decide (a>c),()):Tree (TCTs [.b])).sat (fun y=>y=(Bb6 a b c,())):=by
 refine Bb5 (fun h1=>?_) (fun h1=>?_) <;> (refine Bam ?_;unfold Bb6;rw [h1];rfl)
theorem Bt9:Bai Tryz.prog 66 Bh8:=Bbg (Baq Bao puOk_nil (fns_cons is_outside V1)) 2 (fun x=>bif decide (x.1<x.2.1) then .leaf (true,()) else .leaf (decide (x.1>x.2.2.1),())) (fun x=>by kernel_rfl) fun _ _ _=>Cdj
theorem D4o:Bc7 Tryz.prog [(66,Bh8)]:=puOk_cons is_outside.plain Bt9 puOk_nil
def Bta (n d:Int):Tree (TCTs [.st [cI,cI]]) :=
 bif d != 0 then bif d != 0 then
      bif decide (IntKind.i64.wrap (2*n.tmod d)≥d) then .leaf (((IntKind.i64.wrap (IntKind.i64.wrap (n.tdiv d)+1)),(IntKind.i64.wrap (n.tmod d-d)),()),())
      else bif decide (IntKind.i64.wrap (2*n.tmod d)<IntKind.i64.wrap (0-d)) then .leaf (((IntKind.i64.wrap (IntKind.i64.wrap (n.tdiv d)-1)),(IntKind.i64.wrap (n.tmod d+d)),()),())
      else .leaf (((IntKind.i64.wrap (n.tdiv d)),(n.tmod d),()),())
     else .fail else .fail
theorem C36 {n d:Int} (hok:Bil n d=true):(Bta n d).sat (fun y=>y=((DW n d,DR n d,()),())):=by
 unfold Bta
 unfold Bil at hok
 obtain ⟨h1,h2,h3,h4⟩:=of_decide_eq_true hok
 have hd:(d != 0)=true:=by simp;omega
 have ⟨k1,k2⟩:=Cao n d h3
 have ⟨k3,k4⟩:=C2n n d 1152921504606846976 h3 h1 h2
 rw [Fp (n:=2*n.tmod d) (by omega) (by omega),Fp (n:=n.tdiv d) (by omega) (by omega),Fp (n:=n.tdiv d+1) (by omega) (by omega),Fp (n:=n.tdiv d-1) (by omega) (by omega),
  Fp (n:=n.tmod d-d) (by omega) (by omega),Fp (n:=n.tmod d+d) (by omega) (by omega),Fp (n:=0-d) (by omega) (by omega),hd]
 refine Bb5 (fun _=>Bb5 (fun _=>Bb5 (fun h5=>?_) (fun h5=>Bb5 (fun h6=>?_) (fun h6=>?_))) (fun h=>by simp at h)) (fun h=>by simp at h)
 ·obtain ⟨e1,e2⟩:=D4g n d h3 (of_decide_eq_true h5)
  refine Bam ?_
  rw [e1,e2]
 ·obtain ⟨e1,e2⟩:=D4h n d h3 (by have:=of_decide_eq_true h6;omega)
  refine Bam ?_
  rw [e1,e2]
 ·obtain ⟨e1,e2⟩:=Czz n d h3 (by have:=of_decide_eq_false h5;omega) (by have:=of_decide_eq_false h6;omega)
  refine Bam ?_
  rw [e1,e2]
abbrev Btb:PureT:=Bbe [cI,cI] [.st [cI,cI]] (fun x=>Bil x.1 x.2.1) (fun x=>((DW x.1 x.2.1,DR x.1 x.2.1,()),()))
theorem Cdk:Bai Tryz.prog 69 Btb:=Bbg (Baq Bao puOk_nil (fns_cons is_divide V1)) 2 (fun x=>Bta x.1 x.2.1) (fun x=>by kernel_rfl) fun x hok hw=>C36 hok
theorem D4p:Bc7 Tryz.prog [(69,Btb),(66,Bh8)]:=puOk_cons is_divide.plain Cdk D4o
namespace V
def D0a (n d:Int):Tree (TCTs [.st [cI,cI],cI]) :=
 bif Bb6 n (-1152921504606846976) 1152921504606846976 then .leaf ((0,0,()),3,())
     else bif Bb6 d 1 1152921504606846976 then .leaf ((0,0,()),3,())
     else bif Bil n d then
      bif (DW n d==0)&&((DR n d==0)&&true) then .leaf ((0,0,()),0,())
      else .leaf (((DW n d),(DR n d),()),0,())
     else .fail
theorem Ct7 {n d:Int}:(D0a n d).sat (fun y=>y=((DvW n d,DvR n d,()),DvE n d,())):=by
 unfold D0a
 refine Bb5 (fun h1=>?_) (fun h1=>Bb5 (fun h2=>?_) (fun h2=>Bb5 (fun h3=>?_) (fun h3=>?_)))
 ·obtain ⟨e1,e2,e3⟩:=Csk n d h1
  refine Bam ?_
  rw [e1,e2,e3]
 ·obtain ⟨e1,e2,e3⟩:=Csl n d h2
  refine Bam ?_
  rw [e1,e2,e3]
 ·have ⟨k1,k2⟩:=Bc9 h1
  have ⟨k3,k4⟩:=Bc9 h2
  obtain ⟨e1,e2,e3⟩:=Clg n d k1 k2 k3 k4
  refine Bb5 (fun h4=>?_) (fun h4=>?_)
  ·simp at h4
   refine Bam ?_
   rw [e1,e2,e3,h4.1,h4.2]
  ·refine Bam ?_
   rw [e1,e2,e3]
 ·rw [Bt5,h1,h2] at h3;simp at h3
abbrev C37:PureT:=Bbe [cI,cI] [.st [cI,cI],cI] (fun x=>true) (fun x=>((DvW x.1 x.2.1,DvR x.1 x.2.1,()),DvE x.1 x.2.1,()))
theorem Clt:Bai Tryz.prog 38 C37:=Bbg (Baq Bao D4p (fns_cons is_Divide V1)) 2 (fun x=>D0a x.1 x.2.1) (fun x=>by kernel_rfl) fun x hok hw=>Ct7
end V
def tbB:ByteArray:=⟨((List.range 256).map fun i=>UInt8.ofNat (if i=0 then 0 else Nat.log2 i+1)).toArray⟩
def Ct8 (i:Nat):Int:=((tbB.data.toList.getD i 0).toNat:Int)
theorem Ct9:∀ i,i<256→(tbB.data.toList.getD i 0).toNat=bl i:=by decide +kernel
theorem Clu (i:Nat) (h:i<256):Ct8 i=bl i:=by unfold Ct8;rw [Ct9 i h]
attribute [irreducible] Ct8 tbB
def Clv (n k:Int):Int:=n.fdiv (2 ^ min (Int.toNat k) IntKind.u64.bits)
def Cta (m s:Int):Tree (TCTs [cI]):=bif decide (0≤IntKind.u8.wrap m∧IntKind.u8.wrap m<256) then .leaf (IntKind.i64.wrap (s+IntKind.i64.wrap (Ct8 (IntKind.u8.wrap m).toNat)),()) else .fail
def Ctb (m s:Int):Tree (TCTs [cI]):=bif decide (m≥256) then Cta (Clv m 8) (IntKind.i64.wrap (s+8)) else Cta m s
def Bz4 (m s:Int):Tree (TCTs [cI]):=bif decide (m≥65536) then Ctb (Clv m 16) (IntKind.i64.wrap (s+16)) else Ctb m s
def D0b (n:Int):Tree (TCTs [cI]):=bif decide (n≥4294967296) then Bz4 (Clv n 32) 32 else Bz4 n 0
section
attribute [local irreducible] Tree.sat
theorem Btc (n k:Nat) (hk:k≤64):Clv (n:Int) (k:Int)=((n / 2 ^ k:Nat):Int):=by
 unfold Clv
 have:min (Int.toNat (k:Int)) IntKind.u64.bits=k:=by simp [IntKind.bits];omega
 rw [this,Int.fdiv_eq_ediv_of_nonneg _ (by exact Int.le_of_lt (Int.pow_pos (by decide)))]
 simp
theorem Cdl (m:Nat) (h:m<256):IntKind.u8.wrap (m:Int)=m:=by
 unfold IntKind.wrap;simp [IntKind.bits,IntKind.signed];omega
theorem Cau {R:TCTs [cI]→Prop} (m s:Nat) (hm:m<256) (hs:s≤56) (h:R (((s+bl m:Nat):Int),())):(Cta (m:Int) (s:Int)).sat R:=by
 unfold Cta
 rw [Cdl m hm]
 have hb:bl m≤8:=Bt6 m 8 (by omega)
 refine Bb5 (fun _=>?_) (fun h=>?_)
 ·rw [Int.toNat_natCast,Clu m hm,Fp (n:=(bl m:Int)) (by omega) (by omega),Fp (n:=(s:Int)+(bl m:Int)) (by omega) (by omega)]
  refine Bam ?_
  rw [← Int.natCast_add];exact h
 ·have:=of_decide_eq_false h;omega
theorem Cav {R:TCTs [cI]→Prop} (m s:Nat) (hm:m<65536) (hs:s≤48) (h:R (((s+bl m:Nat):Int),())):(Ctb (m:Int) (s:Int)).sat R:=by
 unfold Ctb
 refine Bb5 (fun h1=>?_) (fun h1=>?_)
 ·have h2:=of_decide_eq_true h1
  rw [Fp (n:=(s:Int)+8) (by omega) (by omega)]
  have e1:=Btc m 8 (by omega)
  simp only [Int.cast_ofNat_Int] at e1
  rw [e1]
  have e2:(s:Int)+8=((s+8:Nat):Int):=by simp
  rw [e2]
  refine Cau (m / 2 ^ 8) (s+8) (by omega) (by omega) ?_
  have:=C6v m 8 (by omega)
  rwa [show s+8+bl (m / 2 ^ 8)=s+bl m by omega]
 ·have h2:=of_decide_eq_false h1
  exact Cau m s (by omega) (by omega) h
theorem Caw {R:TCTs [cI]→Prop} (m s:Nat) (hm:m<4294967296) (hs:s≤32) (h:R (((s+bl m:Nat):Int),())):(Bz4 (m:Int) (s:Int)).sat R:=by
 unfold Bz4
 refine Bb5 (fun h1=>?_) (fun h1=>?_)
 ·have h2:=of_decide_eq_true h1
  rw [Fp (n:=(s:Int)+16) (by omega) (by omega)]
  have e1:=Btc m 16 (by omega)
  simp only [Int.cast_ofNat_Int] at e1
  rw [e1]
  have e2:(s:Int)+16=((s+16:Nat):Int):=by simp
  rw [e2]
  refine Cav (m / 2 ^ 16) (s+16) (by omega) (by omega) ?_
  have:=C6v m 16 (by omega)
  rwa [show s+16+bl (m / 2 ^ 16)=s+bl m by omega]
 ·have h2:=of_decide_eq_false h1
  exact Cav m s (by omega) (by omega) h
theorem Ctc {R:TCTs [cI]→Prop} (n:Int) (h0:0≤n) (h1:n≤18446744073709551615) (h:R ((bl n.toNat:Int),())):(D0b n).sat R:=by
 obtain ⟨m,rfl⟩:=Int.eq_ofNat_of_zero_le h0
 rw [Int.toNat_natCast] at h
 unfold D0b
 refine Bb5 (fun h1=>?_) (fun h1=>?_)
 ·have h2:=of_decide_eq_true h1
  have e1:=Btc m 32 (by omega)
  simp only [Int.cast_ofNat_Int] at e1
  rw [e1]
  refine Caw (m / 2 ^ 32) 32 (by omega) (by omega) ?_
  have:=C6v m 32 (by omega)
  rwa [show 32+bl (m / 2 ^ 32)=bl m by omega]
 ·have h2:=of_decide_eq_false h1
  exact Caw m 0 (by omega) (by omega) (by rwa [Nat.zero_add])
end
abbrev Bz5:PureT:=Bbe [.i .u64] [cI] (fun _=>true) (fun x=>((bl x.1.toNat:Int),()))
theorem Clw:Bai Tryz.prog 110 Bz5:=Bbg (Baq Bao puOk_nil (fns_cons is_Len64 V1)) 2 (fun x=>D0b x.1) (fun x=>by kernel_rfl) fun x _ hw=>Ctc x.1 hw.1.1 hw.1.2 rfl
theorem Cdm:Bc7 Tryz.prog [(110,Bz5)]:=puOk_cons is_Len64.plain Clw puOk_nil
noncomputable def Cax:Code:=(Ban (bodyOf Tryz.f67)).getD 0 .skip
def Bko:Lay:={ keys:=[0,3],ks:=[.d cI,.d cI],bs:=[],n:=25,nx:=1000,marks:=[] }
def Ctd:Lay:={ keys:=[2],ks:=[.d cI],bs:=[],n:=25,nx:=1000,marks:=[] }
def Bmx:XE→Lay:=fun _=>Ctd
def Blq (n x:Int):Bko.T:=((n,x,()),())
def Bz6 (r:Int):V2 Bmx:=⟨.ret,((r,()),())⟩
def Brn (n x:Int):Int:=IntKind.i64.wrap ((IntKind.i64.wrap (x+IntKind.i64.wrap (n.tdiv x))).tdiv 2)
def Btd (n x:Int):Tree (Bko.T⊕V2 Bmx):=bif x != 0 then bif decide (Brn n x≥x) then .leaf (.inr (Bz6 x)) else .leaf (.inl (Blq n (Brn n x))) else .fail
def Blr (g:Bko.T):Tree (Bko.T⊕V2 Bmx):=Btd g.1.1 g.1.2.1
def Bz7 (g:Bko.T):Nat:=Int.toNat g.1.2.1+1
theorem D0c:Bb0 Tryz.prog 67 Cax (Baz Bko Bmx (Bdg [.ret] Blr Bz7)):=Bbl (Baq Bao puOk_nil V1) 1 _ Bko Bmx (fun _=>Nat.le_refl _) [.ret] Blr Bz7 (fun g=>by kernel_rfl)
theorem Cay {n:Int} (h1:2≤n) (h2:n≤4611686018427387904):∀ (k:Nat) (x:Int),1≤x→x≤4294967296→rt n≤x→x.toNat≤k→iter Blr (k+1) (Blq n x)=some (Bz6 (rt n))
 | 0,x,h3,_,_,hk=>by omega
 | k+1,x,h3,h4,h5,hk=>by
  have hq:=Int.ediv_nonneg (show 0≤n by omega) (show 0≤x by omega)
  have hq2:=Int.ediv_le_self x (show 0≤n by omega)
  have e1:Brn n x=(x+n / x) / 2:=by
   unfold Brn
   rw [Int.tdiv_eq_ediv_of_nonneg (show 0≤n by omega),Fp (n:=n / x) (by omega) (by omega),Fp (n:=x+n / x) (by omega) (by omega),Int.tdiv_eq_ediv_of_nonneg (by omega),Fp (by omega) (by omega)]
  have hge:=Cdc n x (by omega) h3
  have hx0:(x != 0)=true:=by simp;omega
  have hs:Blr (Blq n x)=bif decide ((x+n / x) / 2≥x) then .leaf (.inr (Bz6 x)) else .leaf (.inl (Blq n ((x+n / x) / 2))):=by
   show Btd n x=_
   unfold Btd
   rw [hx0,e1]
   rfl
  cases hd:decide ((x+n / x) / 2≥x) with
  | true =>
   have h7:=of_decide_eq_true hd
   have hx:=C6w n x (by omega) h3 h5 (by omega)
   rw [← hx]
   exact Bht (by rw [hs,hd];rfl)
  | false =>
   have h7:=of_decide_eq_false hd
   have hr:=(Bg7 n (by omega)).1
   have hpos:1≤(x+n / x) / 2:=by
    have:1≤rt n:=by
     have hc:=(Bg7 n (by omega)).2.2
     rcases Int.lt_or_le (rt n) 1 with k | k
     ·have:rt n=0:=by omega
      rw [this] at hc;omega
     ·exact k
    omega
   rw [Brv (g':=Blq n ((x+n / x) / 2)) (by rw [hs,hd];rfl)]
   exact Cay h1 h2 k _ hpos (by omega) hge (by omega)
theorem Clx (n:Int) (h0:0≤n) (h:n<2):rt n=n:=Cdb n n h0 (by rcases (show n=0∨n=1 by omega) with rfl | rfl <;> decide) (by rcases (show n=0∨n=1 by omega) with rfl | rfl <;> decide)
def Cdn (n:Int):Bool:=decide (0≤n∧n≤4611686018427387904)
def RtV (n:Int):Int:=if Cdn n then rt n else 0
def RtE (n:Int):Int:=if Cdn n then 0 else 3
abbrev C72:PureT:=Bbe [cI] [cI] (fun x=>decide (0≤x.1∧x.1≤4611686018427387904)) (fun x=>(rt x.1,()))
noncomputable def D0d:Ctx:=Bh4 Tryz.prog [(110,Bz5)] [(67,Tryz.f67)] [((67,V.keyOf Cax),Baz Bko Bmx (Bdg [.ret] Blr Bz7))]
theorem Cdo:CtxOk D0d:=Bca Bao Cdm (fns_cons is_root V1) (Bbv rfl (by kernel_rfl) D0c)
def Bz8 (n:Int):Int:=IntKind.i64.wrap (1*2 ^ min (IntKind.i64.wrap ((IntKind.i64.wrap ((bl (IntKind.u64.wrap n).toNat:Int)+1)).tdiv 2)).toNat IntKind.i64.bits)
def C73 (n:Int):Option (V2 Bmx):=iter Blr (Int.toNat (Bz8 n)+1) (Blq n (Bz8 n))
def C74 (n:Int):Tree (TCTs [cI]):=bif decide (n<2) then .leaf (n,()) else bif decide (0≤IntKind.i64.wrap ((IntKind.i64.wrap ((bl (IntKind.u64.wrap n).toNat:Int)+1)).tdiv 2)) then bif isE .ret (C73 n) then .leaf ((Bcg .ret (C73 n)).1.1,()) else .fail else .fail
theorem Cdp {n:Int} (h0:0≤n) (h1:n≤4611686018427387904):(C74 n).sat (fun y=>y=(rt n,())):=by
 unfold C74 C73 Bz8
 have hwr:IntKind.u64.wrap n=n:=by unfold IntKind.wrap;simp [IntKind.bits,IntKind.signed];omega
 have hb:bl n.toNat≤63:=Bt6 _ 63 (by omega)
 rw [hwr,Fp (n:=(bl n.toNat:Int)+1) (by omega) (by omega),Int.tdiv_eq_ediv_of_nonneg (by omega),Fp (n:=((bl n.toNat:Int)+1) / 2) (by omega) (by omega)]
 refine Bb5 (fun h2=>?_) (fun h2=>Bb5 (fun h3=>?_) (fun h3=>?_))
 ·have:=of_decide_eq_true h2
  refine Bam ?_
  rw [Clx n h0 this]
 ·have h5:=of_decide_eq_false h2
  have e2:min (((bl n.toNat:Int)+1) / 2).toNat IntKind.i64.bits=(bl n.toNat+1) / 2:=by simp [IntKind.bits];omega
  rw [e2,Int.one_mul]
  have hs:=Bz0 n h0
  have hk:(bl n.toNat+1) / 2≤32:=by omega
  have hp1:(1:Int)≤2 ^ ((bl n.toNat+1) / 2):=Int.pow_pos (by decide)
  have hp2:(2:Int) ^ ((bl n.toNat+1) / 2)≤4294967296:=by
   have:2 ^ ((bl n.toNat+1) / 2)≤2 ^ 32:=Nat.pow_le_pow_right (by decide) hk
   have h6:((2 ^ ((bl n.toNat+1) / 2):Nat):Int)≤((2 ^ 32:Nat):Int):=by exact_mod_cast this
   rw [Int.natCast_pow] at h6
   simpa using h6
  generalize (2:Int) ^ ((bl n.toNat+1) / 2)=y at hs hp1 hp2
  rw [Fp (by omega) (by omega)]
  have hr:=Cvz n y h0 (by omega) hs
  rw [Cay (by omega) h1 y.toNat y hp1 hp2 hr (Nat.le_refl _)]
  exact Bam rfl
 ·have:=of_decide_eq_false h3;omega
theorem Caz:Bai Tryz.prog 67 C72:=Bbg Cdo 3 (fun x=>C74 x.1) (fun x=>by kernel_rfl) fun x hok _=>Cdp (of_decide_eq_true hok).1 (of_decide_eq_true hok).2
theorem Cly:Bc7 Tryz.prog [(67,C72),(66,Bh8)]:=puOk_cons is_root.plain Caz D4o
namespace V
def C75 (n:Int):Tree (TCTs [cI,cI]) :=
 bif Bb6 n 0 4611686018427387904 then .leaf (0,3,()) else bif decide (0≤n∧n≤4611686018427387904) then .leaf ((rt n),0,()) else .fail
theorem Cdq {n:Int}:(C75 n).sat (fun y=>y=(RtV n,RtE n,())):=by
 unfold C75
 refine Bb5 (fun h1=>?_) (fun h1=>Bb5 (fun h2=>?_) (fun h2=>?_))
 ·have:Cdn n=false:=by
   unfold Bb6 at h1;unfold Cdn
   simp at h1
   exact decide_eq_false (by omega)
  refine Bam ?_
  unfold RtV RtE;rw [this];rfl
 ·have:Cdn n=true:=h2
  refine Bam ?_
  unfold RtV RtE;rw [this];rfl
 ·have:=Bc9 h1
  have:=of_decide_eq_false h2;omega
abbrev Clz:PureT:=Bbe [cI] [cI,cI] (fun x=>true) (fun x=>(RtV x.1,RtE x.1,()))
theorem D0e:Bai Tryz.prog 61 Clz:=Bbg (Baq Bao Cly (fns_cons is_Root V1)) 2 (fun x=>C75 x.1) (fun x=>by kernel_rfl) fun x hok hw=>Cdq
end V
theorem Bx3 {x lo hi:Int} (h:Bb6 x lo hi=false):lo≤x∧x≤hi:=by
 unfold Bb6 at h
 simp only [Bool.or_eq_false_iff,decide_eq_false_iff_not] at h
 omega
def Bpo (x y:Int):Bool:=decide (max (max (max x (IntKind.i64.wrap (0-x))) y) (IntKind.i64.wrap (0-y))>4194304)
def Bpp (x y:Int):Bool:=decide (min x y < -4194304)
def fpt (x y:Int):Bool:=decide (-4194304≤x∧x≤4194304 ∧ -4194304≤y∧y≤4194304)
theorem C38 (x:Int) (h1 : -9223372036854775808≤x) (h2:x≤9223372036854775807):IntKind.i64.wrap (0-x)=if x = -9223372036854775808 then x else -x:=by
 split
 ·rename_i h;subst h;rfl
 ·rw [Fp (by omega) (by omega)];omega
theorem Cm0 {x y:Int} (hx:inK .i64 x) (hy:inK .i64 y) (h:Bpo x y=true):fpt x y=false:=by
 simp only [inK,Bgg,Bb4] at hx hy
 unfold Bpo at h;unfold fpt
 have h1:=of_decide_eq_true h
 rw [C38 x (by omega) (by omega),C38 y (by omega) (by omega)] at h1
 refine decide_eq_false ?_
 split at h1 <;> split at h1 <;> omega
theorem Cm1 {x y:Int} (h:Bpp x y=true):fpt x y=false:=by
 unfold Bpp at h;unfold fpt
 have h1:=of_decide_eq_true h
 refine decide_eq_false ?_
 omega
theorem D0f {x y:Int} (h:Bpo x y=false) (k:Bpp x y=false):fpt x y=true:=by
 unfold Bpo at h;unfold Bpp at k;unfold fpt
 have h1:=of_decide_eq_false h
 have k1:=of_decide_eq_false k
 refine decide_eq_true ?_
 omega
theorem Bgo {x y:Int} (h:fpt x y=true) : -4194304≤x∧x≤4194304 ∧ -4194304≤y∧y≤4194304:=of_decide_eq_true h
theorem Bg8 {α:Type} {R:α→Prop} {x y:Int} {t u:Tree α} (hx:inK .i64 x) (hy:inK .i64 y) (h1:fpt x y=false→t.sat R) (h2:fpt x y=true→u.sat R):(bif Bpo x y then t else bif Bpp x y then t else u).sat R :=
 Bb5 (fun h=>h1 (Cm0 hx hy h)) (fun h=>Bb5 (fun k=>h1 (Cm1 k)) (fun k=>h2 (D0f h k)))
def Bfs (x y:Int):Int:=bif fpt x y then 0 else 2
def Bgp (x y r:Int):Bool:=fpt x y&&!Bb6 r 1 65536
def Bte (x y r:Int):Int:=bif Bgp x y r then 0 else 2
namespace V
def Cm2 (ax ay:Int):Tree (TCTs [cI]) :=
 bif Bpo ax ay then .leaf (2,()) else bif Bpp ax ay then .leaf (2,()) else .leaf (0,())
theorem Cm3 {ax ay:Int} (a1:inK .i64 ax) (a2:inK .i64 ay):(Cm2 ax ay).sat (fun y=>y=(Bfs ax ay,())):=by
 unfold Cm2
 refine Bg8 a1 a2 (fun k=>?_) (fun k=>?_) <;> (refine Bam ?_;unfold Bfs;rw [k];rfl)
abbrev Bi3:PureT:=Bbe [cPt] [cI] (fun x=>true) (fun x=>(Bfs x.1.1 x.1.2.1,()))
theorem Bjh:Bai Tryz.prog 43 Bi3:=Bbg (Baq Bao puOk_nil (fns_cons Bhj (fns_cons is_fits V1))) 3 (fun x=>Cm2 x.1.1 x.1.2.1) (fun x=>by kernel_rfl) fun x hok hw=>Cm3 hw.1.1 hw.1.2.1
def Cm4 (px py r:Int):Tree (TCTs [cI]) :=
 bif Bpo px py then .leaf (2,()) else bif Bpp px py then .leaf (2,()) else
    bif decide (r<1) then .leaf (2,()) else bif decide (r>65536) then .leaf (2,()) else .leaf (0,())
theorem Cm5 {px py r:Int} (a1:inK .i64 px) (a2:inK .i64 py):(Cm4 px py r).sat (fun y=>y=(Bte px py r,())):=by
 unfold Cm4
 refine Bg8 a1 a2 (fun k=>?_) (fun k1=>Bb5 (fun k=>?_) (fun k2=>Bb5 (fun k=>?_) (fun k3=>?_)))
 ·refine Bam ?_
  unfold Bte Bgp;rw [k];rfl
 ·refine Bam ?_
  unfold Bte Bgp Bb6;rw [k1,k];rfl
 ·have k':decide (65536<r)=true:=k
  refine Bam ?_
  unfold Bte Bgp Bb6;rw [k1,k2,k'];rfl
 ·have k':decide (65536<r)=false:=k3
  refine Bam ?_
  unfold Bte Bgp Bb6;rw [k1,k2,k'];rfl
abbrev Bql:PureT:=Bbe [Bag] [cI] (fun x=>true) (fun x=>(Bte x.1.1.1 x.1.1.2.1 x.1.2.1,()))
theorem Bqm:Bai Tryz.prog 155 Bql:=Bbg (Baq Bao puOk_nil (fns_cons is_CheckDisc (fns_cons is_fits V1))) 3 (fun x=>Cm4 x.1.1.1 x.1.1.2.1 x.1.2.1) (fun x=>by kernel_rfl) fun x hok hw=>Cm5 hw.1.1.1 hw.1.1.2.1
end V
def Cm6 (ax ay bx bY:Int):Tree (TCTs [cI]) :=
 .leaf ((IntKind.i64.wrap (IntKind.i64.wrap (IntKind.i64.wrap (bx-ax)*IntKind.i64.wrap (bx-ax))+IntKind.i64.wrap (IntKind.i64.wrap (bY-ay)*IntKind.i64.wrap (bY-ay)))),())
theorem Cm7 {ax ay bx bY:Int} (hok:(fpt ax ay&&fpt bx bY)=true):(Cm6 ax ay bx bY).sat (fun y=>y=(sq ax ay bx bY,())):=by
 unfold Cm6
 rw [Bool.and_eq_true] at hok
 have c1:=Bgo hok.1
 have c2:=Bgo hok.2
 have b1:=Bb2 (a:=bx-ax) (b:=bx-ax) (A:=8388608) (B:=8388608) (by omega) (by omega) (by omega) (by omega)
 have b2:=Bb2 (a:=bY-ay) (b:=bY-ay) (A:=8388608) (B:=8388608) (by omega) (by omega) (by omega) (by omega)
 rw [Fp (n:=bx-ax) (by omega) (by omega),Fp (n:=bY-ay) (by omega) (by omega),Fp (n:=(bx-ax)*(bx-ax)) (by omega) (by omega),Fp (n:=(bY-ay)*(bY-ay)) (by omega) (by omega),Fp (n:=(bx-ax)*(bx-ax)+(bY-ay)*(bY-ay)) (by omega) (by omega)]
 refine Bam ?_
 unfold sq;rfl
abbrev Btf:PureT:=Bbe [cPt,cPt] [cI] (fun x=>fpt x.1.1 x.1.2.1&&fpt x.2.1.1 x.2.1.2.1) (fun x=>(sq x.1.1 x.1.2.1 x.2.1.1 x.2.1.2.1,()))
theorem Bx4:Bai Tryz.prog 68 Btf:=Bbg (Baq Bao puOk_nil (fns_cons is_square V1)) 2 (fun x=>Cm6 x.1.1 x.1.2.1 x.2.1.1 x.2.1.2.1) (fun x=>by kernel_rfl) fun x hok hw=>Cm7 hok
def D0g:List (Nat×PureT):=[(68,Btf),(67,C72),(69,Btb),(66,Bh8)]
theorem Cm8:Bc7 Tryz.prog D0g:=puOk_cons is_square.plain Bx4 (puOk_cons is_root.plain Caz D4p)
def SqR (ax ay bx bY:Int):Int×Int:=bif fpt ax ay&&fpt bx bY then (sq ax ay bx bY,0) else (0,2)
namespace V
def Cm9 (ax ay bx bY:Int):Tree (TCTs [cI,cI]) :=
 bif Bpo ax ay then .leaf (0,2,()) else bif Bpp ax ay then .leaf (0,2,()) else
    bif Bpo bx bY then .leaf (0,2,()) else bif Bpp bx bY then .leaf (0,2,()) else
    bif fpt ax ay&&fpt bx bY then .leaf ((sq ax ay bx bY),0,()) else .fail
theorem Cma {ax ay bx bY:Int} (a1:inK .i64 ax) (a2:inK .i64 ay) (a3:inK .i64 bx) (a4:inK .i64 bY):(Cm9 ax ay bx bY).sat (fun y=>y=((SqR ax ay bx bY).1,(SqR ax ay bx bY).2,())):=by
 unfold Cm9
 refine Bg8 a1 a2 (fun k=>?_) (fun k1=>Bg8 a3 a4 (fun k=>?_) (fun k2=>?_))
 ·refine Bam ?_
  unfold SqR;rw [k];rfl
 ·refine Bam ?_
  unfold SqR;rw [k1,k];rfl
 ·rw [k1,k2]
  refine Bam ?_
  unfold SqR;rw [k1,k2];rfl
abbrev Cmb:PureT:=Bbe [cPt,cPt] [cI,cI] (fun x=>true) (fun x=>((SqR x.1.1 x.1.2.1 x.2.1.1 x.2.1.2.1).1,(SqR x.1.1 x.1.2.1 x.2.1.1 x.2.1.2.1).2,()))
theorem Cmc:Bai Tryz.prog 167 Cmb:=Bbg (Baq Bao Cm8 (fns_cons is_Square (fns_cons is_fits V1))) 3 (fun x=>Cm9 x.1.1 x.1.2.1 x.2.1.1 x.2.1.2.1) (fun x=>by kernel_rfl) fun x hok hw=>Cma hw.1.1 hw.1.2.1 hw.2.1.1 hw.2.1.2.1
end V
def ToX (px qx d l:Int):Int:=qx+DW (64*l*(px-qx)) d
def dTo (px py qx qy:Int):Int:=rt (sq px py qx qy*4096)
def TwR (px py qx qy l:Int):(Int×Int)×Int :=
 bif fpt px py&&fpt qx qy then bif Bb6 l 0 4194304 then ((0,0),3) else bif px==qx&&py==qy then ((0,0),9) else
  bif fpt (ToX px qx (dTo px py qx qy) l) (ToX py qy (dTo px py qx qy) l) then ((ToX px qx (dTo px py qx qy) l,ToX py qy (dTo px py qx qy) l),0) else ((0,0),4)
 else ((0,0),2)
theorem Cb0 {px py qx qy:Int} (h:fpt px py=true) (k:fpt qx qy=true):0≤sq px py qx qy∧sq px py qx qy≤140737488355328:=by
 have c1:=Bgo h
 have c2:=Bgo k
 have b1:=Bb2 (a:=qx-px) (b:=qx-px) (A:=8388608) (B:=8388608) (by omega) (by omega) (by omega) (by omega)
 have b2:=Bb2 (a:=qy-py) (b:=qy-py) (A:=8388608) (B:=8388608) (by omega) (by omega) (by omega) (by omega)
 have b3:=Bfe (qx-px)
 have b4:=Bfe (qy-py)
 unfold sq;omega
theorem Cmd {px py qx qy:Int} (h:fpt px py=true) (k:fpt qx qy=true) (hne:¬ (px=qx∧py=qy)):1≤dTo px py qx qy∧dTo px py qx qy≤576460752303423488:=by
 have h1:=Cb0 h k
 have h2:=D00 hne
 obtain ⟨r1,r2,r3⟩:=Bg7 (sq px py qx qy*4096) (by omega)
 unfold dTo
 generalize rt (sq px py qx qy*4096)=d at r1 r2 r3
 have hd:1≤d:=by
  rcases Int.lt_or_le d 1 with x | x
  ·have:d=0:=by omega
   subst this
   omega
  ·exact x
 have:=Int.mul_le_mul_of_nonneg_left hd (show 0≤d by omega)
 omega
namespace V
def D0h (px py qx qy l:Int):Tree (TCTs [cPt,cI]) :=
 let d:=rt (IntKind.i64.wrap (sq px py qx qy*4096))
    let ux:=IntKind.i64.wrap (IntKind.i64.wrap (64*l)*IntKind.i64.wrap (px-qx))
    let uy:=IntKind.i64.wrap (IntKind.i64.wrap (64*l)*IntKind.i64.wrap (py-qy))
    bif Bpo px py then .leaf ((0,0,()),2,()) else bif Bpp px py then .leaf ((0,0,()),2,()) else
    bif Bpo qx qy then .leaf ((0,0,()),2,()) else bif Bpp qx qy then .leaf ((0,0,()),2,()) else
    bif Bb6 l 0 4194304 then .leaf ((0,0,()),3,()) else
    bif px==qx&&(py==qy&&true) then .leaf ((0,0,()),9,()) else
    bif fpt px py&&fpt qx qy then bif decide (0≤IntKind.i64.wrap (sq px py qx qy*4096)∧IntKind.i64.wrap (sq px py qx qy*4096)≤4611686018427387904) then
    bif Bil ux d then bif Bil uy d then
    bif Bpo (IntKind.i64.wrap (qx+DW ux d)) (IntKind.i64.wrap (qy+DW uy d)) then .leaf ((0,0,()),4,()) else bif Bpp (IntKind.i64.wrap (qx+DW ux d)) (IntKind.i64.wrap (qy+DW uy d)) then .leaf ((0,0,()),4,()) else
     .leaf (((IntKind.i64.wrap (qx+DW ux d)),(IntKind.i64.wrap (qy+DW uy d)),()),0,())
    else .fail else .fail else .fail else .fail
theorem Cte {px py qx qy l:Int} (a1:inK .i64 px) (a2:inK .i64 py) (a3:inK .i64 qx) (a4:inK .i64 qy):(D0h px py qx qy l).sat (fun y=>y=(((TwR px py qx qy l).1.1,(TwR px py qx qy l).1.2,()),(TwR px py qx qy l).2,())):=by
 unfold D0h
 dsimp only
 refine Bg8 a1 a2 (fun k=>?_) (fun k1=>Bg8 a3 a4 (fun k=>?_) (fun k2=>Bb5 (fun k=>?_) (fun k3=>Bb5 (fun k=>?_) (fun k4=>?_))))
 ·refine Bam ?_
  unfold TwR;rw [k];rfl
 ·refine Bam ?_
  unfold TwR;rw [k1,k];rfl
 ·refine Bam ?_
  unfold TwR;rw [k1,k2,k];rfl
 ·refine Bam ?_
  rw [Bool.and_true] at k
  unfold TwR;rw [k1,k2,k3,k];rfl
 ·have c1:=Bgo k1
  have c2:=Bgo k2
  have c3:=Bx3 k3
  rw [Bool.and_true] at k4
  have hne:¬ (px=qx∧py=qy):=by
   intro hh;simp [hh.1,hh.2] at k4
  have s1:=Cb0 k1 k2
  have hd:=Cmd k1 k2 hne
  have b1:=Bb2 (a:=64*l) (b:=px-qx) (A:=268435456) (B:=8388608) (by omega) (by omega) (by omega) (by omega)
  have b2:=Bb2 (a:=64*l) (b:=py-qy) (A:=268435456) (B:=8388608) (by omega) (by omega) (by omega) (by omega)
  rw [Fp (n:=sq px py qx qy*4096) (by omega) (by omega),Fp (n:=64*l) (by omega) (by omega),Fp (n:=px-qx) (by omega) (by omega),Fp (n:=py-qy) (by omega) (by omega),Fp (n:=64*l*(px-qx)) (by omega) (by omega),Fp (n:=64*l*(py-qy)) (by omega) (by omega)]
  have hdd:rt (sq px py qx qy*4096)=dTo px py qx qy:=rfl
  rw [hdd]
  have w1:=Cap (64*l*(px-qx)) (dTo px py qx qy) 2251799813685248 hd.1 (by omega) (by omega) (by omega)
  have w2:=Cap (64*l*(py-qy)) (dTo px py qx qy) 2251799813685248 hd.1 (by omega) (by omega) (by omega)
  rw [Fp (n:=qx+DW (64*l*(px-qx)) (dTo px py qx qy)) (by omega) (by omega),Fp (n:=qy+DW (64*l*(py-qy)) (dTo px py qx qy)) (by omega) (by omega)]
  have v1:Bil (64*l*(px-qx)) (dTo px py qx qy)=true:=by unfold Bil;exact decide_eq_true (by omega)
  have v2:Bil (64*l*(py-qy)) (dTo px py qx qy)=true:=by unfold Bil;exact decide_eq_true (by omega)
  rw [k1,k2,v1,v2]
  have v3:decide (0≤sq px py qx qy*4096∧sq px py qx qy*4096≤4611686018427387904)=true:=decide_eq_true (by omega)
  rw [v3]
  have hT:TwR px py qx qy l=bif fpt (ToX px qx (dTo px py qx qy) l) (ToX py qy (dTo px py qx qy) l) then ((ToX px qx (dTo px py qx qy) l,ToX py qy (dTo px py qx qy) l),0) else ((0,0),4):=by
   unfold TwR;rw [k1,k2,k3,k4];rfl
  rw [hT]
  simp only [cond_true,Bool.and_self]
  refine Bg8 ?_ ?_ (fun k=>?_) (fun k=>?_)
  ·simp only [inK,Bgg,Bb4];omega
  ·simp only [inK,Bgg,Bb4];omega
  ·have k':fpt (ToX px qx (dTo px py qx qy) l) (ToX py qy (dTo px py qx qy) l)=false:=k
   rw [k'];exact Bam rfl
  ·have k':fpt (ToX px qx (dTo px py qx qy) l) (ToX py qy (dTo px py qx qy) l)=true:=k
   rw [k'];exact Bam rfl
abbrev C76:PureT:=Bbe [cPt,cPt,cI] [cPt,cI] (fun x=>true) (fun x=>(((TwR x.1.1 x.1.2.1 x.2.1.1 x.2.1.2.1 x.2.2.1).1.1,(TwR x.1.1 x.1.2.1 x.2.1.1 x.2.1.2.1 x.2.2.1).1.2,()),(TwR x.1.1 x.1.2.1 x.2.1.1 x.2.1.2.1 x.2.2.1).2,()))
theorem C77:Bai Tryz.prog 23 C76:=Bbg (Baq Bao Cm8 (fns_cons is_Towards (fns_cons is_fits V1))) 3 (fun x=>D0h x.1.1 x.1.2.1 x.2.1.1 x.2.1.2.1 x.2.2.1) (fun x=>by kernel_rfl) fun x hok hw=>Cte hw.1.1 hw.1.2.1 hw.2.1.1 hw.2.1.2.1
end V
def D0i (a b c:Int):Tree (TCTs [.b]) :=
 bif decide (a≥b) then .leaf ((decide (a≤c)),()) else .leaf (false,())
theorem Ctf {a b c:Int}:(D0i a b c).sat (fun y=>y=(!Bb6 a b c,())):=by
 unfold D0i
 refine Bb5 (fun h1=>?_) (fun h1=>?_)
 ·have h2:=of_decide_eq_true h1
  refine Bam ?_
  congr 1
  unfold Bb6
  rw [Bool.eq_iff_iff]
  simp only [decide_eq_true_eq,Bool.not_eq_true',Bool.or_eq_false_iff,decide_eq_false_iff_not]
  omega
 ·have h2:=of_decide_eq_false h1
  refine Bam ?_
  congr 1
  have:Bb6 a b c=true:=by unfold Bb6;simp;omega
  rw [this];rfl
abbrev Cb1:PureT:=Bbe [cI,cI,cI] [.b] (fun x=>true) (fun x=>(!Bb6 x.1 x.2.1 x.2.2.1,()))
theorem Ctg (x y:Int):fpt x y=(!Bb6 x (-4194304) 4194304&&!Bb6 y (-4194304) 4194304):=by
 unfold fpt Bb6
 rw [Bool.eq_iff_iff]
 simp only [decide_eq_true_eq,Bool.and_eq_true,Bool.not_eq_true',Bool.or_eq_false_iff,decide_eq_false_iff_not]
 omega
namespace V
def D0l (x y:Int):Tree (TCTs [.b]) :=
 bif !Bb6 x (-4194304) 4194304 then .leaf ((!Bb6 y (-4194304) 4194304),()) else .leaf (false,())
theorem Cth {x y:Int}:(D0l x y).sat (fun z=>z=(fpt x y,())):=by
 unfold D0l
 rw [Ctg]
 refine Bb5 (fun h1=>?_) (fun h1=>?_) <;> (refine Bam ?_;rw [h1];rfl)
abbrev Cb2:PureT:=Bbe [cPt] [.b] (fun x=>true) (fun x=>(fpt x.1.1 x.1.2.1,()))
end V
namespace V
end V
namespace V
end V
end Go.Proofs.YtcfanlgpkefogaaGreat
