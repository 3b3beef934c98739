import Derived.Test.YtcfanlgpkefogaaGreatZe
import Derived.Test.YtcfanlgpkefogaaGreatMA
import Derived.Test.YtcfanlgpkefogaaGreatRows
namespace Go.Proofs.YtcfanlgpkefogaaGreat
open Go.RowKit V
theorem is_outside:FnIs Tryz.prog (66,Tryz.f66):=⟨Tryz.func66,by kernel_rfl,by kernel_rfl⟩
theorem is_divide:FnIs Tryz.prog (69,Tryz.f69):=⟨Tryz.func69,by kernel_rfl,by kernel_rfl⟩
theorem is_Divide:FnIs Tryz.prog (38,Tryz.f38):=⟨Tryz.func38,by kernel_rfl,by kernel_rfl⟩
theorem is_Root:FnIs Tryz.prog (61,Tryz.f61):=⟨Tryz.func61,by kernel_rfl,by kernel_rfl⟩
theorem is_root:FnIs Tryz.prog (67,Tryz.f67):=⟨Tryz.func67,by kernel_rfl,by kernel_rfl⟩
theorem is_Len64:FnIs Tryz.prog (110,Tryz.f110):=⟨Tryz.func110,by kernel_rfl,by kernel_rfl⟩
theorem is_fits:FnIs Tryz.prog (65,Tryz.f65):=⟨Tryz.func65,by kernel_rfl,by kernel_rfl⟩
theorem is_CheckDisc:FnIs Tryz.prog (155,Tryz.f155):=⟨Tryz.func155,by kernel_rfl,by kernel_rfl⟩
theorem is_square:FnIs Tryz.prog (68,Tryz.f68):=⟨Tryz.func68,by kernel_rfl,by kernel_rfl⟩
theorem is_Square:FnIs Tryz.prog (167,Tryz.f167):=⟨Tryz.func167,by kernel_rfl,by kernel_rfl⟩
theorem is_Towards:FnIs Tryz.prog (23,Tryz.f23):=⟨Tryz.func23,by kernel_rfl,by kernel_rfl⟩
theorem Bib:FnIs Tryz.prog (43,Tryz.f43):=⟨Tryz.func43,by kernel_rfl,by kernel_rfl⟩
namespace V
abbrev cPt:TC:=.st [.i .i64,.i .i64]
abbrev Baf:TC:=.st [cPt,.i .i64]
end V
abbrev Bhv:PureT:=Bbh [cI,cI,cI] [.b] (fun _=>true) (fun x=>(Bb8 x.1 x.2.1 x.2.2.1,()))
theorem Ci6 {a b c:Int}:(bif decide (a<b) then .leaf (true,()) else .leaf (decide (a>c),()):Tree (TCTs [.b])).sat (fun y=>y=(Bb8 a b c,())):=by
 refine Bb6 (fun h1=>?_) (fun h1=>?_) <;> (refine Baq ?_;unfold Bb8;rw [h1];rfl)
theorem Bvf:Bai Tryz.prog 66 Bhv:=Bbj (Bas Bar puOk_nil (fns_cons is_outside V1)) 2 (fun x=>bif decide (x.1<x.2.1) then .leaf (true,()) else .leaf (decide (x.1>x.2.2.1),())) (fun x=>by kernel_rfl) fun _ _ _=>Ci6
theorem Dc9:Bcd Tryz.prog [(66,Bhv)]:=puOk_cons is_outside.plain Bvf puOk_nil
def Bvg (n d:Int):Tree (TCTs [.st [cI,cI]]) :=
 bif d != 0 then bif d != 0 then
      bif decide (IntKind.i64.wrap (2*n.tmod d)≥d) then .leaf (((IntKind.i64.wrap (IntKind.i64.wrap (n.tdiv d)+1)),(IntKind.i64.wrap (n.tmod d-d)),()),())
      else bif decide (IntKind.i64.wrap (2*n.tmod d)<IntKind.i64.wrap (0-d)) then .leaf (((IntKind.i64.wrap (IntKind.i64.wrap (n.tdiv d)-1)),(IntKind.i64.wrap (n.tmod d+d)),()),())
      else .leaf (((IntKind.i64.wrap (n.tdiv d)),(n.tmod d),()),())
     else .fail else .fail
theorem C64 {n d:Int} (hok:Bjc n d=true):(Bvg n d).sat (fun y=>y=((DW n d,DR n d,()),())):=by
 unfold Bvg
 unfold Bjc at hok
 obtain ⟨h1,h2,h3,h4⟩:=of_decide_eq_true hok
 have hd:(d != 0)=true:=by simp;omega
 have ⟨k1,k2⟩:=Cf5 n d h3
 have ⟨k3,k4⟩:=C5n n d 1152921504606846976 h3 h1 h2
 rw [Fp (n:=2*n.tmod d) (by omega) (by omega),Fp (n:=n.tdiv d) (by omega) (by omega),Fp (n:=n.tdiv d+1) (by omega) (by omega),Fp (n:=n.tdiv d-1) (by omega) (by omega),
  Fp (n:=n.tmod d-d) (by omega) (by omega),Fp (n:=n.tmod d+d) (by omega) (by omega),Fp (n:=0-d) (by omega) (by omega),hd]
 refine Bb6 (fun _=>Bb6 (fun _=>Bb6 (fun h5=>?_) (fun h5=>Bb6 (fun h6=>?_) (fun h6=>?_))) (fun h=>by simp at h)) (fun h=>by simp at h)
 ·obtain ⟨e1,e2⟩:=Dc1 n d h3 (of_decide_eq_true h5)
  refine Baq ?_
  rw [e1,e2]
 ·obtain ⟨e1,e2⟩:=Dc2 n d h3 (by have:=of_decide_eq_true h6;omega)
  refine Baq ?_
  rw [e1,e2]
 ·obtain ⟨e1,e2⟩:=D6y n d h3 (by have:=of_decide_eq_false h5;omega) (by have:=of_decide_eq_false h6;omega)
  refine Baq ?_
  rw [e1,e2]
abbrev Bvh:PureT:=Bbh [cI,cI] [.st [cI,cI]] (fun x=>Bjc x.1 x.2.1) (fun x=>((DW x.1 x.2.1,DR x.1 x.2.1,()),()))
theorem Ci7:Bai Tryz.prog 69 Bvh:=Bbj (Bas Bar puOk_nil (fns_cons is_divide V1)) 2 (fun x=>Bvg x.1 x.2.1) (fun x=>by kernel_rfl) fun x hok hw=>C64 hok
theorem Dca:Bcd Tryz.prog [(69,Bvh),(66,Bhv)]:=puOk_cons is_divide.plain Ci7 Dc9
namespace V
def D75 (n d:Int):Tree (TCTs [.st [cI,cI],cI]) :=
 bif Bb8 n (-1152921504606846976) 1152921504606846976 then .leaf ((0,0,()),3,())
     else bif Bb8 d 1 1152921504606846976 then .leaf ((0,0,()),3,())
     else bif Bjc n d then
      bif (DW n d==0)&&((DR n d==0)&&true) then .leaf ((0,0,()),0,())
      else .leaf (((DW n d),(DR n d),()),0,())
     else .fail
theorem Czj {n d:Int}:(D75 n d).sat (fun y=>y=((DvW n d,DvR n d,()),DvE n d,())):=by
 unfold D75
 refine Bb6 (fun h1=>?_) (fun h1=>Bb6 (fun h2=>?_) (fun h2=>Bb6 (fun h3=>?_) (fun h3=>?_)))
 ·obtain ⟨e1,e2,e3⟩:=Cyz n d h1
  refine Baq ?_
  rw [e1,e2,e3]
 ·obtain ⟨e1,e2,e3⟩:=Cz0 n d h2
  refine Baq ?_
  rw [e1,e2,e3]
 ·have ⟨k1,k2⟩:=Bcj h1
  have ⟨k3,k4⟩:=Bcj h2
  obtain ⟨e1,e2,e3⟩:=Cqz n d k1 k2 k3 k4
  refine Bb6 (fun h4=>?_) (fun h4=>?_)
  ·simp at h4
   refine Baq ?_
   rw [e1,e2,e3,h4.1,h4.2]
  ·refine Baq ?_
   rw [e1,e2,e3]
 ·rw [Bv9,h1,h2] at h3;simp at h3
abbrev C65:PureT:=Bbh [cI,cI] [.st [cI,cI],cI] (fun x=>true) (fun x=>((DvW x.1 x.2.1,DvR x.1 x.2.1,()),DvE x.1 x.2.1,()))
theorem Cre:Bai Tryz.prog 38 C65:=Bbj (Bas Bar Dca (fns_cons is_Divide V1)) 2 (fun x=>D75 x.1 x.2.1) (fun x=>by kernel_rfl) fun x hok hw=>Czj
end V
def tbB:ByteArray:=⟨((List.range 256).map fun i=>UInt8.ofNat (if i=0 then 0 else Nat.log2 i+1)).toArray⟩
def Czk (i:Nat):Int:=((tbB.data.toList.getD i 0).toNat:Int)
theorem Czl:∀ i,i<256→(tbB.data.toList.getD i 0).toNat=bl i:=by decide +kernel
theorem Crf (i:Nat) (h:i<256):Czk i=bl i:=by unfold Czk;rw [Czl i h]
attribute [irreducible] Czk tbB
def Crg (n k:Int):Int:=n.fdiv (2 ^ min (Int.toNat k) IntKind.u64.bits)
def Czm (m s:Int):Tree (TCTs [cI]):=bif decide (0≤IntKind.u8.wrap m∧IntKind.u8.wrap m<256) then .leaf (IntKind.i64.wrap (s+IntKind.i64.wrap (Czk (IntKind.u8.wrap m).toNat)),()) else .fail
def Czn (m s:Int):Tree (TCTs [cI]):=bif decide (m≥256) then Czm (Crg m 8) (IntKind.i64.wrap (s+8)) else Czm m s
def C1v (m s:Int):Tree (TCTs [cI]):=bif decide (m≥65536) then Czn (Crg m 16) (IntKind.i64.wrap (s+16)) else Czn m s
def D76 (n:Int):Tree (TCTs [cI]):=bif decide (n≥4294967296) then C1v (Crg n 32) 32 else C1v n 0
section
attribute [local irreducible] Tree.sat
theorem Bvi (n k:Nat) (hk:k≤64):Crg (n:Int) (k:Int)=((n / 2 ^ k:Nat):Int):=by
 unfold Crg
 have:min (Int.toNat (k:Int)) IntKind.u64.bits=k:=by simp [IntKind.bits];omega
 rw [this,Int.fdiv_eq_ediv_of_nonneg _ (by exact Int.le_of_lt (Int.pow_pos (by decide)))]
 simp
theorem Ci8 (m:Nat) (h:m<256):IntKind.u8.wrap (m:Int)=m:=by
 unfold IntKind.wrap;simp [IntKind.bits,IntKind.signed];omega
theorem Cfb {R:TCTs [cI]→Prop} (m s:Nat) (hm:m<256) (hs:s≤56) (h:R (((s+bl m:Nat):Int),())):(Czm (m:Int) (s:Int)).sat R:=by
 unfold Czm
 rw [Ci8 m hm]
 have hb:bl m≤8:=Bva m 8 (by omega)
 refine Bb6 (fun _=>?_) (fun h=>?_)
 ·rw [Int.toNat_natCast,Crf m hm,Fp (n:=(bl m:Int)) (by omega) (by omega),Fp (n:=(s:Int)+(bl m:Int)) (by omega) (by omega)]
  refine Baq ?_
  rw [← Int.natCast_add];exact h
 ·have:=of_decide_eq_false h;omega
theorem Cfc {R:TCTs [cI]→Prop} (m s:Nat) (hm:m<65536) (hs:s≤48) (h:R (((s+bl m:Nat):Int),())):(Czn (m:Int) (s:Int)).sat R:=by
 unfold Czn
 refine Bb6 (fun h1=>?_) (fun h1=>?_)
 ·have h2:=of_decide_eq_true h1
  rw [Fp (n:=(s:Int)+8) (by omega) (by omega)]
  have e1:=Bvi m 8 (by omega)
  simp only [Int.cast_ofNat_Int] at e1
  rw [e1]
  have e2:(s:Int)+8=((s+8:Nat):Int):=by simp
  rw [e2]
  refine Cfb (m / 2 ^ 8) (s+8) (by omega) (by omega) ?_
  have:=Caf m 8 (by omega)
  rwa [show s+8+bl (m / 2 ^ 8)=s+bl m by omega]
 ·have h2:=of_decide_eq_false h1
  exact Cfb m s (by omega) (by omega) h
theorem Cfd {R:TCTs [cI]→Prop} (m s:Nat) (hm:m<4294967296) (hs:s≤32) (h:R (((s+bl m:Nat):Int),())):(C1v (m:Int) (s:Int)).sat R:=by
 unfold C1v
 refine Bb6 (fun h1=>?_) (fun h1=>?_)
 ·have h2:=of_decide_eq_true h1
  rw [Fp (n:=(s:Int)+16) (by omega) (by omega)]
  have e1:=Bvi m 16 (by omega)
  simp only [Int.cast_ofNat_Int] at e1
  rw [e1]
  have e2:(s:Int)+16=((s+16:Nat):Int):=by simp
  rw [e2]
  refine Cfc (m / 2 ^ 16) (s+16) (by omega) (by omega) ?_
  have:=Caf m 16 (by omega)
  rwa [show s+16+bl (m / 2 ^ 16)=s+bl m by omega]
 ·have h2:=of_decide_eq_false h1
  exact Cfc m s (by omega) (by omega) h
theorem Czo {R:TCTs [cI]→Prop} (n:Int) (h0:0≤n) (h1:n≤18446744073709551615) (h:R ((bl n.toNat:Int),())):(D76 n).sat R:=by
 obtain ⟨m,rfl⟩:=Int.eq_ofNat_of_zero_le h0
 rw [Int.toNat_natCast] at h
 unfold D76
 refine Bb6 (fun h1=>?_) (fun h1=>?_)
 ·have h2:=of_decide_eq_true h1
  have e1:=Bvi m 32 (by omega)
  simp only [Int.cast_ofNat_Int] at e1
  rw [e1]
  refine Cfd (m / 2 ^ 32) 32 (by omega) (by omega) ?_
  have:=Caf m 32 (by omega)
  rwa [show 32+bl (m / 2 ^ 32)=bl m by omega]
 ·have h2:=of_decide_eq_false h1
  exact Cfd m 0 (by omega) (by omega) (by rwa [Nat.zero_add])
end
abbrev C1w:PureT:=Bbh [.i .u64] [cI] (fun _=>true) (fun x=>((bl x.1.toNat:Int),()))
theorem Crh:Bai Tryz.prog 110 C1w:=Bbj (Bas Bar puOk_nil (fns_cons is_Len64 V1)) 2 (fun x=>D76 x.1) (fun x=>by kernel_rfl) fun x _ hw=>Czo x.1 hw.1.1 hw.1.2 rfl
theorem Ci9:Bcd Tryz.prog [(110,C1w)]:=puOk_cons is_Len64.plain Crh puOk_nil
noncomputable def Cfe:Code:=(Bak (bodyOf Tryz.f67)).getD 0 .skip
def Bll:Lay:={ keys:=[0,3],ks:=[.d cI,.d cI],bs:=[],n:=25,nx:=1000,marks:=[] }
def Czp:Lay:={ keys:=[2],ks:=[.d cI],bs:=[],n:=25,nx:=1000,marks:=[] }
def Bnz:XE→Lay:=fun _=>Czp
def Bmo (n x:Int):Bll.T:=((n,x,()),())
def C1x (r:Int):Fq Bnz:=⟨.ret,((r,()),())⟩
def Bt7 (n x:Int):Int:=IntKind.i64.wrap ((IntKind.i64.wrap (x+IntKind.i64.wrap (n.tdiv x))).tdiv 2)
def Bvj (n x:Int):Tree (Bll.T⊕Fq Bnz):=bif x != 0 then bif decide (Bt7 n x≥x) then .leaf (.inr (C1x x)) else .leaf (.inl (Bmo n (Bt7 n x))) else .fail
def Bmp (g:Bll.T):Tree (Bll.T⊕Fq Bnz):=Bvj g.1.1 g.1.2.1
def C1y (g:Bll.T):Nat:=Int.toNat g.1.2.1+1
theorem D77:Baw Tryz.prog 67 Cfe (Bav Bll Bnz (Bcm [.ret] Bmp C1y)):=Bb9 (Bas Bar puOk_nil V1) 1 _ Bll Bnz (fun _=>Nat.le_refl _) [.ret] Bmp C1y (fun g=>by kernel_rfl)
theorem Cff {n:Int} (h1:2≤n) (h2:n≤4611686018427387904):∀ (k:Nat) (x:Int),1≤x→x≤4294967296→rt n≤x→x.toNat≤k→iter Bmp (k+1) (Bmo n x)=some (C1x (rt n))
 | 0,x,h3,_,_,hk=>by omega
 | k+1,x,h3,h4,h5,hk=>by
  have hq:=Int.ediv_nonneg (show 0≤n by omega) (show 0≤x by omega)
  have hq2:=Int.ediv_le_self x (show 0≤n by omega)
  have e1:Bt7 n x=(x+n / x) / 2:=by
   unfold Bt7
   rw [Int.tdiv_eq_ediv_of_nonneg (show 0≤n by omega),Fp (n:=n / x) (by omega) (by omega),Fp (n:=x+n / x) (by omega) (by omega),Int.tdiv_eq_ediv_of_nonneg (by omega),Fp (by omega) (by omega)]
  have hge:=Ci0 n x (by omega) h3
  have hx0:(x != 0)=true:=by simp;omega
  have hs:Bmp (Bmo n x)=bif decide ((x+n / x) / 2≥x) then .leaf (.inr (C1x x)) else .leaf (.inl (Bmo n ((x+n / x) / 2))):=by
   show Bvj n x=_
   unfold Bvj
   rw [hx0,e1]
   rfl
  cases hd:decide ((x+n / x) / 2≥x) with
  | true =>
   have h7:=of_decide_eq_true hd
   have hx:=Cag n x (by omega) h3 h5 (by omega)
   rw [← hx]
   exact Bep (by rw [hs,hd];rfl)
  | false =>
   have h7:=of_decide_eq_false hd
   have hr:=(Bg0 n (by omega)).1
   have hpos:1≤(x+n / x) / 2:=by
    have:1≤rt n:=by
     have hc:=(Bg0 n (by omega)).2.2
     rcases Int.lt_or_le (rt n) 1 with k | k
     ·have:rt n=0:=by omega
      rw [this] at hc;omega
     ·exact k
    omega
   rw [Bkt (g':=Bmo n ((x+n / x) / 2)) (by rw [hs,hd];rfl)]
   exact Cff h1 h2 k _ hpos (by omega) hge (by omega)
theorem Cri (n:Int) (h0:0≤n) (h:n<2):rt n=n:=Chz n n h0 (by rcases (show n=0∨n=1 by omega) with rfl | rfl <;> decide) (by rcases (show n=0∨n=1 by omega) with rfl | rfl <;> decide)
def Cia (n:Int):Bool:=decide (0≤n∧n≤4611686018427387904)
def RtV (n:Int):Int:=if Cia n then rt n else 0
def RtE (n:Int):Int:=if Cia n then 0 else 3
abbrev Cao:PureT:=Bbh [cI] [cI] (fun x=>decide (0≤x.1∧x.1≤4611686018427387904)) (fun x=>(rt x.1,()))
noncomputable def D78:Ctx:=Bh4 Tryz.prog [(110,C1w)] [(67,Tryz.f67)] [((67,V.keyOf Cfe),Bav Bll Bnz (Bcm [.ret] Bmp C1y))]
theorem Cib:CtxOk D78:=Bca Bar Ci9 (fns_cons is_root V1) (Bc0 rfl (by kernel_rfl) D77)
def C1z (n:Int):Int:=IntKind.i64.wrap (1*2 ^ min (IntKind.i64.wrap ((IntKind.i64.wrap ((bl (IntKind.u64.wrap n).toNat:Int)+1)).tdiv 2)).toNat IntKind.i64.bits)
def Cap (n:Int):Option (Fq Bnz):=iter Bmp (Int.toNat (C1z n)+1) (Bmo n (C1z n))
def Caq (n:Int):Tree (TCTs [cI]):=bif decide (n<2) then .leaf (n,()) else bif decide (0≤IntKind.i64.wrap ((IntKind.i64.wrap ((bl (IntKind.u64.wrap n).toNat:Int)+1)).tdiv 2)) then bif isE .ret (Cap n) then .leaf ((Bc2 .ret (Cap n)).1.1,()) else .fail else .fail
theorem Cic {n:Int} (h0:0≤n) (h1:n≤4611686018427387904):(Caq n).sat (fun y=>y=(rt n,())):=by
 unfold Caq Cap C1z
 have hwr:IntKind.u64.wrap n=n:=by unfold IntKind.wrap;simp [IntKind.bits,IntKind.signed];omega
 have hb:bl n.toNat≤63:=Bva _ 63 (by omega)
 rw [hwr,Fp (n:=(bl n.toNat:Int)+1) (by omega) (by omega),Int.tdiv_eq_ediv_of_nonneg (by omega),Fp (n:=((bl n.toNat:Int)+1) / 2) (by omega) (by omega)]
 refine Bb6 (fun h2=>?_) (fun h2=>Bb6 (fun h3=>?_) (fun h3=>?_))
 ·have:=of_decide_eq_true h2
  refine Baq ?_
  rw [Cri n h0 this]
 ·have h5:=of_decide_eq_false h2
  have e2:min (((bl n.toNat:Int)+1) / 2).toNat IntKind.i64.bits=(bl n.toNat+1) / 2:=by simp [IntKind.bits];omega
  rw [e2,Int.one_mul]
  have hs:=C1q n h0
  have hk:(bl n.toNat+1) / 2≤32:=by omega
  have hp1:(1:Int)≤2 ^ ((bl n.toNat+1) / 2):=Int.pow_pos (by decide)
  have hp2:(2:Int) ^ ((bl n.toNat+1) / 2)≤4294967296:=by
   have:2 ^ ((bl n.toNat+1) / 2)≤2 ^ 32:=Nat.pow_le_pow_right (by decide) hk
   have h6:((2 ^ ((bl n.toNat+1) / 2):Nat):Int)≤((2 ^ 32:Nat):Int):=by exact_mod_cast this
   rw [Int.natCast_pow] at h6
   simpa using h6
  generalize (2:Int) ^ ((bl n.toNat+1) / 2)=y at hs hp1 hp2
  rw [Fp (by omega) (by omega)]
  have hr:=D2q n y h0 (by omega) hs
  rw [Cff (by omega) h1 y.toNat y hp1 hp2 hr (Nat.le_refl _)]
  exact Baq rfl
 ·have:=of_decide_eq_false h3;omega
theorem Cfg:Bai Tryz.prog 67 Cao:=Bbj Cib 3 (fun x=>Caq x.1) (fun x=>by kernel_rfl) fun x hok _=>Cic (of_decide_eq_true hok).1 (of_decide_eq_true hok).2
theorem Crj:Bcd Tryz.prog [(67,Cao),(66,Bhv)]:=puOk_cons is_root.plain Cfg Dc9
namespace V
def Car (n:Int):Tree (TCTs [cI,cI]) :=
 bif Bb8 n 0 4611686018427387904 then .leaf (0,3,()) else bif decide (0≤n∧n≤4611686018427387904) then .leaf ((rt n),0,()) else .fail
theorem Cid {n:Int}:(Car n).sat (fun y=>y=(RtV n,RtE n,())):=by
 unfold Car
 refine Bb6 (fun h1=>?_) (fun h1=>Bb6 (fun h2=>?_) (fun h2=>?_))
 ·have:Cia n=false:=by
   unfold Bb8 at h1;unfold Cia
   simp at h1
   exact decide_eq_false (by omega)
  refine Baq ?_
  unfold RtV RtE;rw [this];rfl
 ·have:Cia n=true:=h2
  refine Baq ?_
  unfold RtV RtE;rw [this];rfl
 ·have:=Bcj h1
  have:=of_decide_eq_false h2;omega
abbrev Crk:PureT:=Bbh [cI] [cI,cI] (fun x=>true) (fun x=>(RtV x.1,RtE x.1,()))
theorem D79:Bai Tryz.prog 61 Crk:=Bbj (Bas Bar Crj (fns_cons is_Root V1)) 2 (fun x=>Car x.1) (fun x=>by kernel_rfl) fun x hok hw=>Cid
end V
theorem Bz5 {x lo hi:Int} (h:Bb8 x lo hi=false):lo≤x∧x≤hi:=by
 unfold Bb8 at h
 simp only [Bool.or_eq_false_iff,decide_eq_false_iff_not] at h
 omega
def Bqy (x y:Int):Bool:=decide (max (max (max x (IntKind.i64.wrap (0-x))) y) (IntKind.i64.wrap (0-y))>4194304)
def Bqz (x y:Int):Bool:=decide (min x y < -4194304)
def fpt (x y:Int):Bool:=decide (-4194304≤x∧x≤4194304 ∧ -4194304≤y∧y≤4194304)
theorem C66 (x:Int) (h1 : -9223372036854775808≤x) (h2:x≤9223372036854775807):IntKind.i64.wrap (0-x)=if x = -9223372036854775808 then x else -x:=by
 split
 ·rename_i h;subst h;rfl
 ·rw [Fp (by omega) (by omega)];omega
theorem Crl {x y:Int} (hx:inK .i64 x) (hy:inK .i64 y) (h:Bqy x y=true):fpt x y=false:=by
 simp only [inK,Bh0,Bb2] at hx hy
 unfold Bqy at h;unfold fpt
 have h1:=of_decide_eq_true h
 rw [C66 x (by omega) (by omega),C66 y (by omega) (by omega)] at h1
 refine decide_eq_false ?_
 split at h1 <;> split at h1 <;> omega
theorem Crm {x y:Int} (h:Bqz x y=true):fpt x y=false:=by
 unfold Bqz at h;unfold fpt
 have h1:=of_decide_eq_true h
 refine decide_eq_false ?_
 omega
theorem D7a {x y:Int} (h:Bqy x y=false) (k:Bqz x y=false):fpt x y=true:=by
 unfold Bqy at h;unfold Bqz at k;unfold fpt
 have h1:=of_decide_eq_false h
 have k1:=of_decide_eq_false k
 refine decide_eq_true ?_
 omega
theorem Bh8 {x y:Int} (h:fpt x y=true) : -4194304≤x∧x≤4194304 ∧ -4194304≤y∧y≤4194304:=of_decide_eq_true h
theorem Bgu {α:Type} {R:α→Prop} {x y:Int} {t u:Tree α} (hx:inK .i64 x) (hy:inK .i64 y) (h1:fpt x y=false→t.sat R) (h2:fpt x y=true→u.sat R):(bif Bqy x y then t else bif Bqz x y then t else u).sat R :=
 Bb6 (fun h=>h1 (Crl hx hy h)) (fun h=>Bb6 (fun k=>h1 (Crm k)) (fun k=>h2 (D7a h k)))
def Bgi (x y:Int):Int:=bif fpt x y then 0 else 2
def Bh9 (x y r:Int):Bool:=fpt x y&&!Bb8 r 1 65536
def Bvk (x y r:Int):Int:=bif Bh9 x y r then 0 else 2
namespace V
def Crn (ax ay:Int):Tree (TCTs [cI]) :=
 bif Bqy ax ay then .leaf (2,()) else bif Bqz ax ay then .leaf (2,()) else .leaf (0,())
theorem Cro {ax ay:Int} (a1:inK .i64 ax) (a2:inK .i64 ay):(Crn ax ay).sat (fun y=>y=(Bgi ax ay,())):=by
 unfold Crn
 refine Bgu a1 a2 (fun k=>?_) (fun k=>?_) <;> (refine Baq ?_;unfold Bgi;rw [k];rfl)
abbrev Bit:PureT:=Bbh [cPt] [cI] (fun x=>true) (fun x=>(Bgi x.1.1 x.1.2.1,()))
theorem Bk9:Bai Tryz.prog 43 Bit:=Bbj (Bas Bar puOk_nil (fns_cons Bib (fns_cons is_fits V1))) 3 (fun x=>Crn x.1.1 x.1.2.1) (fun x=>by kernel_rfl) fun x hok hw=>Cro hw.1.1 hw.1.2.1
def Crp (px py r:Int):Tree (TCTs [cI]) :=
 bif Bqy px py then .leaf (2,()) else bif Bqz px py then .leaf (2,()) else
    bif decide (r<1) then .leaf (2,()) else bif decide (r>65536) then .leaf (2,()) else .leaf (0,())
theorem Crq {px py r:Int} (a1:inK .i64 px) (a2:inK .i64 py):(Crp px py r).sat (fun y=>y=(Bvk px py r,())):=by
 unfold Crp
 refine Bgu a1 a2 (fun k=>?_) (fun k1=>Bb6 (fun k=>?_) (fun k2=>Bb6 (fun k=>?_) (fun k3=>?_)))
 ·refine Baq ?_
  unfold Bvk Bh9;rw [k];rfl
 ·refine Baq ?_
  unfold Bvk Bh9 Bb8;rw [k1,k];rfl
 ·have k':decide (65536<r)=true:=k
  refine Baq ?_
  unfold Bvk Bh9 Bb8;rw [k1,k2,k'];rfl
 ·have k':decide (65536<r)=false:=k3
  refine Baq ?_
  unfold Bvk Bh9 Bb8;rw [k1,k2,k'];rfl
abbrev Bs0:PureT:=Bbh [Baf] [cI] (fun x=>true) (fun x=>(Bvk x.1.1.1 x.1.1.2.1 x.1.2.1,()))
theorem Bs1:Bai Tryz.prog 155 Bs0:=Bbj (Bas Bar puOk_nil (fns_cons is_CheckDisc (fns_cons is_fits V1))) 3 (fun x=>Crp x.1.1.1 x.1.1.2.1 x.1.2.1) (fun x=>by kernel_rfl) fun x hok hw=>Crq hw.1.1.1 hw.1.1.2.1
end V
def Crr (ax ay bx bY:Int):Tree (TCTs [cI]) :=
 .leaf ((IntKind.i64.wrap (IntKind.i64.wrap (IntKind.i64.wrap (bx-ax)*IntKind.i64.wrap (bx-ax))+IntKind.i64.wrap (IntKind.i64.wrap (bY-ay)*IntKind.i64.wrap (bY-ay)))),())
theorem Crs {ax ay bx bY:Int} (hok:(fpt ax ay&&fpt bx bY)=true):(Crr ax ay bx bY).sat (fun y=>y=(sq ax ay bx bY,())):=by
 unfold Crr
 rw [Bool.and_eq_true] at hok
 have c1:=Bh8 hok.1
 have c2:=Bh8 hok.2
 have b1:=Bb5 (a:=bx-ax) (b:=bx-ax) (A:=8388608) (B:=8388608) (by omega) (by omega) (by omega) (by omega)
 have b2:=Bb5 (a:=bY-ay) (b:=bY-ay) (A:=8388608) (B:=8388608) (by omega) (by omega) (by omega) (by omega)
 rw [Fp (n:=bx-ax) (by omega) (by omega),Fp (n:=bY-ay) (by omega) (by omega),Fp (n:=(bx-ax)*(bx-ax)) (by omega) (by omega),Fp (n:=(bY-ay)*(bY-ay)) (by omega) (by omega),Fp (n:=(bx-ax)*(bx-ax)+(bY-ay)*(bY-ay)) (by omega) (by omega)]
 refine Baq ?_
 unfold sq;rfl
abbrev Bvl:PureT:=Bbh [cPt,cPt] [cI] (fun x=>fpt x.1.1 x.1.2.1&&fpt x.2.1.1 x.2.1.2.1) (fun x=>(sq x.1.1 x.1.2.1 x.2.1.1 x.2.1.2.1,()))
theorem Bz6:Bai Tryz.prog 68 Bvl:=Bbj (Bas Bar puOk_nil (fns_cons is_square V1)) 2 (fun x=>Crr x.1.1 x.1.2.1 x.2.1.1 x.2.1.2.1) (fun x=>by kernel_rfl) fun x hok hw=>Crs hok
def D7b:List (Nat×PureT):=[(68,Bvl),(67,Cao),(69,Bvh),(66,Bhv)]
theorem Crt:Bcd Tryz.prog D7b:=puOk_cons is_square.plain Bz6 (puOk_cons is_root.plain Cfg Dca)
def SqR (ax ay bx bY:Int):Int×Int:=bif fpt ax ay&&fpt bx bY then (sq ax ay bx bY,0) else (0,2)
namespace V
def Cru (ax ay bx bY:Int):Tree (TCTs [cI,cI]) :=
 bif Bqy ax ay then .leaf (0,2,()) else bif Bqz ax ay then .leaf (0,2,()) else
    bif Bqy bx bY then .leaf (0,2,()) else bif Bqz bx bY then .leaf (0,2,()) else
    bif fpt ax ay&&fpt bx bY then .leaf ((sq ax ay bx bY),0,()) else .fail
theorem Crv {ax ay bx bY:Int} (a1:inK .i64 ax) (a2:inK .i64 ay) (a3:inK .i64 bx) (a4:inK .i64 bY):(Cru ax ay bx bY).sat (fun y=>y=((SqR ax ay bx bY).1,(SqR ax ay bx bY).2,())):=by
 unfold Cru
 refine Bgu a1 a2 (fun k=>?_) (fun k1=>Bgu a3 a4 (fun k=>?_) (fun k2=>?_))
 ·refine Baq ?_
  unfold SqR;rw [k];rfl
 ·refine Baq ?_
  unfold SqR;rw [k1,k];rfl
 ·rw [k1,k2]
  refine Baq ?_
  unfold SqR;rw [k1,k2];rfl
abbrev Crw:PureT:=Bbh [cPt,cPt] [cI,cI] (fun x=>true) (fun x=>((SqR x.1.1 x.1.2.1 x.2.1.1 x.2.1.2.1).1,(SqR x.1.1 x.1.2.1 x.2.1.1 x.2.1.2.1).2,()))
theorem Crx:Bai Tryz.prog 167 Crw:=Bbj (Bas Bar Crt (fns_cons is_Square (fns_cons is_fits V1))) 3 (fun x=>Cru x.1.1 x.1.2.1 x.2.1.1 x.2.1.2.1) (fun x=>by kernel_rfl) fun x hok hw=>Crv hw.1.1 hw.1.2.1 hw.2.1.1 hw.2.1.2.1
end V
def ToX (px qx d l:Int):Int:=qx+DW (64*l*(px-qx)) d
def dTo (px py qx qy:Int):Int:=rt (sq px py qx qy*4096)
def TwR (px py qx qy l:Int):(Int×Int)×Int :=
 bif fpt px py&&fpt qx qy then bif Bb8 l 0 4194304 then ((0,0),3) else bif px==qx&&py==qy then ((0,0),9) else
  bif fpt (ToX px qx (dTo px py qx qy) l) (ToX py qy (dTo px py qx qy) l) then ((ToX px qx (dTo px py qx qy) l,ToX py qy (dTo px py qx qy) l),0) else ((0,0),4)
 else ((0,0),2)
theorem C67 {px py qx qy:Int} (h:fpt px py=true) (k:fpt qx qy=true):0≤sq px py qx qy∧sq px py qx qy≤140737488355328:=by
 have c1:=Bh8 h
 have c2:=Bh8 k
 have b1:=Bb5 (a:=qx-px) (b:=qx-px) (A:=8388608) (B:=8388608) (by omega) (by omega) (by omega) (by omega)
 have b2:=Bb5 (a:=qy-py) (b:=qy-py) (A:=8388608) (B:=8388608) (by omega) (by omega) (by omega) (by omega)
 have b3:=Bg1 (qx-px)
 have b4:=Bg1 (qy-py)
 unfold sq;omega
theorem Cas {px py qx qy:Int} (h:fpt px py=true) (k:fpt qx qy=true) (hne:¬ (px=qx∧py=qy)):1≤dTo px py qx qy∧dTo px py qx qy≤576460752303423488:=by
 have h1:=C67 h k
 have h2:=Cr2 hne
 obtain ⟨r1,r2,r3⟩:=Bg0 (sq px py qx qy*4096) (by omega)
 unfold dTo
 generalize rt (sq px py qx qy*4096)=d at r1 r2 r3
 have hd:1≤d:=by
  rcases Int.lt_or_le d 1 with x | x
  ·have:d=0:=by omega
   subst this
   omega
  ·exact x
 have:=Int.mul_le_mul_of_nonneg_left hd (show 0≤d by omega)
 omega
namespace V
def D7c (px py qx qy l:Int):Tree (TCTs [cPt,cI]) :=
 let d:=rt (IntKind.i64.wrap (sq px py qx qy*4096))
    let ux:=IntKind.i64.wrap (IntKind.i64.wrap (64*l)*IntKind.i64.wrap (px-qx))
    let uy:=IntKind.i64.wrap (IntKind.i64.wrap (64*l)*IntKind.i64.wrap (py-qy))
    bif Bqy px py then .leaf ((0,0,()),2,()) else bif Bqz px py then .leaf ((0,0,()),2,()) else
    bif Bqy qx qy then .leaf ((0,0,()),2,()) else bif Bqz qx qy then .leaf ((0,0,()),2,()) else
    bif Bb8 l 0 4194304 then .leaf ((0,0,()),3,()) else
    bif px==qx&&(py==qy&&true) then .leaf ((0,0,()),9,()) else
    bif fpt px py&&fpt qx qy then bif decide (0≤IntKind.i64.wrap (sq px py qx qy*4096)∧IntKind.i64.wrap (sq px py qx qy*4096)≤4611686018427387904) then
    bif Bjc ux d then bif Bjc uy d then
    bif Bqy (IntKind.i64.wrap (qx+DW ux d)) (IntKind.i64.wrap (qy+DW uy d)) then .leaf ((0,0,()),4,()) else bif Bqz (IntKind.i64.wrap (qx+DW ux d)) (IntKind.i64.wrap (qy+DW uy d)) then .leaf ((0,0,()),4,()) else
     .leaf (((IntKind.i64.wrap (qx+DW ux d)),(IntKind.i64.wrap (qy+DW uy d)),()),0,())
    else .fail else .fail else .fail else .fail
theorem Czq {px py qx qy l:Int} (a1:inK .i64 px) (a2:inK .i64 py) (a3:inK .i64 qx) (a4:inK .i64 qy):(D7c px py qx qy l).sat (fun y=>y=(((TwR px py qx qy l).1.1,(TwR px py qx qy l).1.2,()),(TwR px py qx qy l).2,())):=by
 unfold D7c
 dsimp only
 refine Bgu a1 a2 (fun k=>?_) (fun k1=>Bgu a3 a4 (fun k=>?_) (fun k2=>Bb6 (fun k=>?_) (fun k3=>Bb6 (fun k=>?_) (fun k4=>?_))))
 ·refine Baq ?_
  unfold TwR;rw [k];rfl
 ·refine Baq ?_
  unfold TwR;rw [k1,k];rfl
 ·refine Baq ?_
  unfold TwR;rw [k1,k2,k];rfl
 ·refine Baq ?_
  rw [Bool.and_true] at k
  unfold TwR;rw [k1,k2,k3,k];rfl
 ·have c1:=Bh8 k1
  have c2:=Bh8 k2
  have c3:=Bz5 k3
  rw [Bool.and_true] at k4
  have hne:¬ (px=qx∧py=qy):=by
   intro hh;simp [hh.1,hh.2] at k4
  have s1:=C67 k1 k2
  have hd:=Cas k1 k2 hne
  have b1:=Bb5 (a:=64*l) (b:=px-qx) (A:=268435456) (B:=8388608) (by omega) (by omega) (by omega) (by omega)
  have b2:=Bb5 (a:=64*l) (b:=py-qy) (A:=268435456) (B:=8388608) (by omega) (by omega) (by omega) (by omega)
  rw [Fp (n:=sq px py qx qy*4096) (by omega) (by omega),Fp (n:=64*l) (by omega) (by omega),Fp (n:=px-qx) (by omega) (by omega),Fp (n:=py-qy) (by omega) (by omega),Fp (n:=64*l*(px-qx)) (by omega) (by omega),Fp (n:=64*l*(py-qy)) (by omega) (by omega)]
  have hdd:rt (sq px py qx qy*4096)=dTo px py qx qy:=rfl
  rw [hdd]
  have w1:=Cf6 (64*l*(px-qx)) (dTo px py qx qy) 2251799813685248 hd.1 (by omega) (by omega) (by omega)
  have w2:=Cf6 (64*l*(py-qy)) (dTo px py qx qy) 2251799813685248 hd.1 (by omega) (by omega) (by omega)
  rw [Fp (n:=qx+DW (64*l*(px-qx)) (dTo px py qx qy)) (by omega) (by omega),Fp (n:=qy+DW (64*l*(py-qy)) (dTo px py qx qy)) (by omega) (by omega)]
  have v1:Bjc (64*l*(px-qx)) (dTo px py qx qy)=true:=by unfold Bjc;exact decide_eq_true (by omega)
  have v2:Bjc (64*l*(py-qy)) (dTo px py qx qy)=true:=by unfold Bjc;exact decide_eq_true (by omega)
  rw [k1,k2,v1,v2]
  have v3:decide (0≤sq px py qx qy*4096∧sq px py qx qy*4096≤4611686018427387904)=true:=decide_eq_true (by omega)
  rw [v3]
  have hT:TwR px py qx qy l=bif fpt (ToX px qx (dTo px py qx qy) l) (ToX py qy (dTo px py qx qy) l) then ((ToX px qx (dTo px py qx qy) l,ToX py qy (dTo px py qx qy) l),0) else ((0,0),4):=by
   unfold TwR;rw [k1,k2,k3,k4];rfl
  rw [hT]
  simp only [cond_true,Bool.and_self]
  refine Bgu ?_ ?_ (fun k=>?_) (fun k=>?_)
  ·simp only [inK,Bh0,Bb2];omega
  ·simp only [inK,Bh0,Bb2];omega
  ·have k':fpt (ToX px qx (dTo px py qx qy) l) (ToX py qy (dTo px py qx qy) l)=false:=k
   rw [k'];exact Baq rfl
  ·have k':fpt (ToX px qx (dTo px py qx qy) l) (ToX py qy (dTo px py qx qy) l)=true:=k
   rw [k'];exact Baq rfl
abbrev Cat:PureT:=Bbh [cPt,cPt,cI] [cPt,cI] (fun x=>true) (fun x=>(((TwR x.1.1 x.1.2.1 x.2.1.1 x.2.1.2.1 x.2.2.1).1.1,(TwR x.1.1 x.1.2.1 x.2.1.1 x.2.1.2.1 x.2.2.1).1.2,()),(TwR x.1.1 x.1.2.1 x.2.1.1 x.2.1.2.1 x.2.2.1).2,()))
theorem Cau:Bai Tryz.prog 23 Cat:=Bbj (Bas Bar Crt (fns_cons is_Towards (fns_cons is_fits V1))) 3 (fun x=>D7c x.1.1 x.1.2.1 x.2.1.1 x.2.1.2.1 x.2.2.1) (fun x=>by kernel_rfl) fun x hok hw=>Czq hw.1.1 hw.1.2.1 hw.2.1.1 hw.2.1.2.1
end V
def D7d (a b c:Int):Tree (TCTs [.b]) :=
 bif decide (a≥b) then .leaf ((decide (a≤c)),()) else .leaf (false,())
theorem Czr {a b c:Int}:(D7d a b c).sat (fun y=>y=(!Bb8 a b c,())):=by
 unfold D7d
 refine Bb6 (fun h1=>?_) (fun h1=>?_)
 ·have h2:=of_decide_eq_true h1
  refine Baq ?_
  congr 1
  unfold Bb8
  rw [Bool.eq_iff_iff]
  simp only [decide_eq_true_eq,Bool.not_eq_true',Bool.or_eq_false_iff,decide_eq_false_iff_not]
  omega
 ·have h2:=of_decide_eq_false h1
  refine Baq ?_
  congr 1
  have:Bb8 a b c=true:=by unfold Bb8;simp;omega
  rw [this];rfl
abbrev Cfh:PureT:=Bbh [cI,cI,cI] [.b] (fun x=>true) (fun x=>(!Bb8 x.1 x.2.1 x.2.2.1,()))
theorem Czs (x y:Int):fpt x y=(!Bb8 x (-4194304) 4194304&&!Bb8 y (-4194304) 4194304):=by
 unfold fpt Bb8
 rw [Bool.eq_iff_iff]
 simp only [decide_eq_true_eq,Bool.and_eq_true,Bool.not_eq_true',Bool.or_eq_false_iff,decide_eq_false_iff_not]
 omega
namespace V
def D7g (x y:Int):Tree (TCTs [.b]) :=
 bif !Bb8 x (-4194304) 4194304 then .leaf ((!Bb8 y (-4194304) 4194304),()) else .leaf (false,())
theorem Czt {x y:Int}:(D7g x y).sat (fun z=>z=(fpt x y,())):=by
 unfold D7g
 rw [Czs]
 refine Bb6 (fun h1=>?_) (fun h1=>?_) <;> (refine Baq ?_;rw [h1];rfl)
abbrev Cfi:PureT:=Bbh [cPt] [.b] (fun x=>true) (fun x=>(fpt x.1.1 x.1.2.1,()))
end V
namespace V
end V
namespace V
end V
end Go.Proofs.YtcfanlgpkefogaaGreat
