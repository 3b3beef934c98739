import Derived.Test.YtcfanlgpkefogaaGreatZe
import Derived.Test.YtcfanlgpkefogaaGreatMA
import Derived.Test.YtcfanlgpkefogaaGreatRows
namespace Go.Proofs.YtcfanlgpkefogaaGreat
open Go.RowKit V
theorem is_outside:FnIs Tryz.prog (66,Tryz.f66):=⟨Tryz.func66,by kernel_rfl,by kernel_rfl⟩
theorem is_divide:FnIs Tryz.prog (69,Tryz.f69):=⟨Tryz.func69,by kernel_rfl,by kernel_rfl⟩
theorem is_Divide:FnIs Tryz.prog (38,Tryz.f38):=⟨Tryz.func38,by kernel_rfl,by kernel_rfl⟩
theorem is_Root:FnIs Tryz.prog (61,Tryz.f61):=⟨Tryz.func61,by kernel_rfl,by kernel_rfl⟩
theorem is_root:FnIs Tryz.prog (67,Tryz.f67):=⟨Tryz.func67,by kernel_rfl,by kernel_rfl⟩
theorem is_Len64:FnIs Tryz.prog (110,Tryz.f110):=⟨Tryz.func110,by kernel_rfl,by kernel_rfl⟩
theorem is_fits:FnIs Tryz.prog (65,Tryz.f65):=⟨Tryz.func65,by kernel_rfl,by kernel_rfl⟩
theorem is_CheckDisc:FnIs Tryz.prog (155,Tryz.f155):=⟨Tryz.func155,by kernel_rfl,by kernel_rfl⟩
theorem is_square:FnIs Tryz.prog (68,Tryz.f68):=⟨Tryz.func68,by kernel_rfl,by kernel_rfl⟩
theorem is_Square:FnIs Tryz.prog (167,Tryz.f167):=⟨Tryz.func167,by kernel_rfl,by kernel_rfl⟩
theorem is_Towards:FnIs Tryz.prog (23,Tryz.f23):=⟨Tryz.func23,by kernel_rfl,by kernel_rfl⟩
theorem Hj:FnIs Tryz.prog (43,Tryz.f43):=⟨Tryz.func43,by kernel_rfl,by kernel_rfl⟩
namespace V
abbrev cPt:TC:=.st [.i .i64,.i .i64]
abbrev A2:TC:=.st [cPt,.i .i64]
end V
abbrev K7:PureT:=Bv [cI,cI,cI] [.b] (fun _=>true) (fun x=>(Bs x.1 x.2.1 x.2.2.1,()))
theorem An5 {a b c:Int}:(bif decide (a<b) then .leaf (true,()) else .leaf (decide (a>c),()):Tree (TCTs [.b])).sat (fun y=>y=(Bs a b c,())):=by
 refine Bp (fun h1=>?_) (fun h1=>?_) <;> (refine Ak ?_;unfold Bs;rw [h1];rfl)
theorem A0b:A7 Tryz.prog 66 K7:=C0 (B5 Aw puOk_nil (fns_cons is_outside A0)) 2 (fun x=>bif decide (x.1<x.2.1) then .leaf (true,()) else .leaf (decide (x.1>x.2.2.1),())) (fun x=>by kernel_rfl) fun _ _ _=>An5
theorem Bho:Db Tryz.prog [(66,K7)]:=puOk_cons is_outside.plain A0b puOk_nil
def A0c (n d:Int):Tree (TCTs [.st [cI,cI]]) :=
 bif d != 0 then bif d != 0 then
      bif decide (IntKind.i64.wrap (2*n.tmod d)≥d) then .leaf (((IntKind.i64.wrap (IntKind.i64.wrap (n.tdiv d)+1)),(IntKind.i64.wrap (n.tmod d-d)),()),())
      else bif decide (IntKind.i64.wrap (2*n.tmod d)<IntKind.i64.wrap (0-d)) then .leaf (((IntKind.i64.wrap (IntKind.i64.wrap (n.tdiv d)-1)),(IntKind.i64.wrap (n.tmod d+d)),()),())
      else .leaf (((IntKind.i64.wrap (n.tdiv d)),(n.tmod d),()),())
     else .fail else .fail
theorem Ab1 {n d:Int} (hok:Lv n d=true):(A0c n d).sat (fun y=>y=((DW n d,DR n d,()),())):=by
 unfold A0c
 unfold Lv at hok
 obtain ⟨h1,h2,h3,h4⟩:=of_decide_eq_true hok
 have hd:(d != 0)=true:=by simp;omega
 have ⟨k1,k2⟩:=Ak2 n d h3
 have ⟨k3,k4⟩:=Bhf n d 1152921504606846976 h3 h1 h2
 rw [A9 (n:=2*n.tmod d) (by omega) (by omega),A9 (n:=n.tdiv d) (by omega) (by omega),A9 (n:=n.tdiv d+1) (by omega) (by omega),A9 (n:=n.tdiv d-1) (by omega) (by omega),
  A9 (n:=n.tmod d-d) (by omega) (by omega),A9 (n:=n.tmod d+d) (by omega) (by omega),A9 (n:=0-d) (by omega) (by omega),hd]
 refine Bp (fun _=>Bp (fun _=>Bp (fun h5=>?_) (fun h5=>Bp (fun h6=>?_) (fun h6=>?_))) (fun h=>by simp at h)) (fun h=>by simp at h)
 ·obtain ⟨e1,e2⟩:=Bhg n d h3 (of_decide_eq_true h5)
  refine Ak ?_
  rw [e1,e2]
 ·obtain ⟨e1,e2⟩:=Bhh n d h3 (by have:=of_decide_eq_true h6;omega)
  refine Ak ?_
  rw [e1,e2]
 ·obtain ⟨e1,e2⟩:=Bc8 n d h3 (by have:=of_decide_eq_false h5;omega) (by have:=of_decide_eq_false h6;omega)
  refine Ak ?_
  rw [e1,e2]
abbrev A0d:PureT:=Bv [cI,cI] [.st [cI,cI]] (fun x=>Lv x.1 x.2.1) (fun x=>((DW x.1 x.2.1,DR x.1 x.2.1,()),()))
theorem An6:A7 Tryz.prog 69 A0d:=C0 (B5 Aw puOk_nil (fns_cons is_divide A0)) 2 (fun x=>A0c x.1 x.2.1) (fun x=>by kernel_rfl) fun x hok hw=>Ab1 hok
theorem Bhp:Db Tryz.prog [(69,A0d),(66,K7)]:=puOk_cons is_divide.plain An6 Bho
namespace V
def Bcg (n d:Int):Tree (TCTs [.st [cI,cI],cI]) :=
 bif Bs n (-1152921504606846976) 1152921504606846976 then .leaf ((0,0,()),3,())
     else bif Bs d 1 1152921504606846976 then .leaf ((0,0,()),3,())
     else bif Lv n d then
      bif (DW n d==0)&&((DR n d==0)&&true) then .leaf ((0,0,()),0,())
      else .leaf (((DW n d),(DR n d),()),0,())
     else .fail
theorem B4i {n d:Int}:(Bcg n d).sat (fun y=>y=((DvW n d,DvR n d,()),DvE n d,())):=by
 unfold Bcg
 refine Bp (fun h1=>?_) (fun h1=>Bp (fun h2=>?_) (fun h2=>Bp (fun h3=>?_) (fun h3=>?_)))
 ·obtain ⟨e1,e2,e3⟩:=B3x n d h1
  refine Ak ?_
  rw [e1,e2,e3]
 ·obtain ⟨e1,e2,e3⟩:=B3y n d h2
  refine Ak ?_
  rw [e1,e2,e3]
 ·have ⟨k1,k2⟩:=Fc h1
  have ⟨k3,k4⟩:=Fc h2
  obtain ⟨e1,e2,e3⟩:=Avq n d k1 k2 k3 k4
  refine Bp (fun h4=>?_) (fun h4=>?_)
  ·simp at h4
   refine Ak ?_
   rw [e1,e2,e3,h4.1,h4.2]
  ·refine Ak ?_
   rw [e1,e2,e3]
 ·rw [A04,h1,h2] at h3;simp at h3
abbrev Ab2:PureT:=Bv [cI,cI] [.st [cI,cI],cI] (fun x=>true) (fun x=>((DvW x.1 x.2.1,DvR x.1 x.2.1,()),DvE x.1 x.2.1,()))
theorem Aw4:A7 Tryz.prog 38 Ab2:=C0 (B5 Aw Bhp (fns_cons is_Divide A0)) 2 (fun x=>Bcg x.1 x.2.1) (fun x=>by kernel_rfl) fun x hok hw=>B4i
end V
def tbB:ByteArray:=⟨((List.range 256).map fun i=>UInt8.ofNat (if i=0 then 0 else Nat.log2 i+1)).toArray⟩
def B4j (i:Nat):Int:=((tbB.data.toList.getD i 0).toNat:Int)
theorem B4k:∀ i,i<256→(tbB.data.toList.getD i 0).toNat=bl i:=by decide +kernel
theorem Aw5 (i:Nat) (h:i<256):B4j i=bl i:=by unfold B4j;rw [B4k i h]
attribute [irreducible] B4j tbB
def Aw6 (n k:Int):Int:=n.fdiv (2 ^ min (Int.toNat k) IntKind.u64.bits)
def B4l (m s:Int):Tree (TCTs [cI]):=bif decide (0≤IntKind.u8.wrap m∧IntKind.u8.wrap m<256) then .leaf (IntKind.i64.wrap (s+IntKind.i64.wrap (B4j (IntKind.u8.wrap m).toNat)),()) else .fail
def B4m (m s:Int):Tree (TCTs [cI]):=bif decide (m≥256) then B4l (Aw6 m 8) (IntKind.i64.wrap (s+8)) else B4l m s
def A6j (m s:Int):Tree (TCTs [cI]):=bif decide (m≥65536) then B4m (Aw6 m 16) (IntKind.i64.wrap (s+16)) else B4m m s
def Bch (n:Int):Tree (TCTs [cI]):=bif decide (n≥4294967296) then A6j (Aw6 n 32) 32 else A6j n 0
section
attribute [local irreducible] Tree.sat
theorem A0e (n k:Nat) (hk:k≤64):Aw6 (n:Int) (k:Int)=((n / 2 ^ k:Nat):Int):=by
 unfold Aw6
 have:min (Int.toNat (k:Int)) IntKind.u64.bits=k:=by simp [IntKind.bits];omega
 rw [this,Int.fdiv_eq_ediv_of_nonneg _ (by exact Int.le_of_lt (Int.pow_pos (by decide)))]
 simp
theorem An7 (m:Nat) (h:m<256):IntKind.u8.wrap (m:Int)=m:=by
 unfold IntKind.wrap;simp [IntKind.bits,IntKind.signed];omega
theorem Ak7 {R:TCTs [cI]→Prop} (m s:Nat) (hm:m<256) (hs:s≤56) (h:R (((s+bl m:Nat):Int),())):(B4l (m:Int) (s:Int)).sat R:=by
 unfold B4l
 rw [An7 m hm]
 have hb:bl m≤8:=A05 m 8 (by omega)
 refine Bp (fun _=>?_) (fun h=>?_)
 ·rw [Int.toNat_natCast,Aw5 m hm,A9 (n:=(bl m:Int)) (by omega) (by omega),A9 (n:=(s:Int)+(bl m:Int)) (by omega) (by omega)]
  refine Ak ?_
  rw [← Int.natCast_add];exact h
 ·have:=of_decide_eq_false h;omega
theorem Ak8 {R:TCTs [cI]→Prop} (m s:Nat) (hm:m<65536) (hs:s≤48) (h:R (((s+bl m:Nat):Int),())):(B4m (m:Int) (s:Int)).sat R:=by
 unfold B4m
 refine Bp (fun h1=>?_) (fun h1=>?_)
 ·have h2:=of_decide_eq_true h1
  rw [A9 (n:=(s:Int)+8) (by omega) (by omega)]
  have e1:=A0e m 8 (by omega)
  simp only [Int.cast_ofNat_Int] at e1
  rw [e1]
  have e2:(s:Int)+8=((s+8:Nat):Int):=by simp
  rw [e2]
  refine Ak7 (m / 2 ^ 8) (s+8) (by omega) (by omega) ?_
  have:=Af6 m 8 (by omega)
  rwa [show s+8+bl (m / 2 ^ 8)=s+bl m by omega]
 ·have h2:=of_decide_eq_false h1
  exact Ak7 m s (by omega) (by omega) h
theorem Ak9 {R:TCTs [cI]→Prop} (m s:Nat) (hm:m<4294967296) (hs:s≤32) (h:R (((s+bl m:Nat):Int),())):(A6j (m:Int) (s:Int)).sat R:=by
 unfold A6j
 refine Bp (fun h1=>?_) (fun h1=>?_)
 ·have h2:=of_decide_eq_true h1
  rw [A9 (n:=(s:Int)+16) (by omega) (by omega)]
  have e1:=A0e m 16 (by omega)
  simp only [Int.cast_ofNat_Int] at e1
  rw [e1]
  have e2:(s:Int)+16=((s+16:Nat):Int):=by simp
  rw [e2]
  refine Ak8 (m / 2 ^ 16) (s+16) (by omega) (by omega) ?_
  have:=Af6 m 16 (by omega)
  rwa [show s+16+bl (m / 2 ^ 16)=s+bl m by omega]
 ·have h2:=of_decide_eq_false h1
  exact Ak8 m s (by omega) (by omega) h
theorem B4n {R:TCTs [cI]→Prop} (n:Int) (h0:0≤n) (h1:n≤18446744073709551615) (h:R ((bl n.toNat:Int),())):(Bch n).sat R:=by
 obtain ⟨m,rfl⟩:=Int.eq_ofNat_of_zero_le h0
 rw [Int.toNat_natCast] at h
 unfold Bch
 refine Bp (fun h1=>?_) (fun h1=>?_)
 ·have h2:=of_decide_eq_true h1
  have e1:=A0e m 32 (by omega)
  simp only [Int.cast_ofNat_Int] at e1
  rw [e1]
  refine Ak9 (m / 2 ^ 32) 32 (by omega) (by omega) ?_
  have:=Af6 m 32 (by omega)
  rwa [show 32+bl (m / 2 ^ 32)=bl m by omega]
 ·have h2:=of_decide_eq_false h1
  exact Ak9 m 0 (by omega) (by omega) (by rwa [Nat.zero_add])
end
abbrev A6k:PureT:=Bv [.i .u64] [cI] (fun _=>true) (fun x=>((bl x.1.toNat:Int),()))
theorem Aw7:A7 Tryz.prog 110 A6k:=C0 (B5 Aw puOk_nil (fns_cons is_Len64 A0)) 2 (fun x=>Bch x.1) (fun x=>by kernel_rfl) fun x _ hw=>B4n x.1 hw.1.1 hw.1.2 rfl
theorem An8:Db Tryz.prog [(110,A6k)]:=puOk_cons is_Len64.plain Aw7 puOk_nil
noncomputable def Aka:Code:=(As (bodyOf Tryz.f67)).getD 0 .skip
def Ot:Lay:={ keys:=[0,3],ks:=[.d cI,.d cI],bs:=[],n:=25,nx:=1000,marks:=[] }
def B4o:Lay:={ keys:=[2],ks:=[.d cI],bs:=[],n:=25,nx:=1000,marks:=[] }
def Rt:XE→Lay:=fun _=>B4o
def Pz (n x:Int):Ot.T:=((n,x,()),())
def A6l (r:Int):A1 Rt:=⟨.ret,((r,()),())⟩
def Xy (n x:Int):Int:=IntKind.i64.wrap ((IntKind.i64.wrap (x+IntKind.i64.wrap (n.tdiv x))).tdiv 2)
def A0f (n x:Int):Tree (Ot.T⊕A1 Rt):=bif x != 0 then bif decide (Xy n x≥x) then .leaf (.inr (A6l x)) else .leaf (.inl (Pz n (Xy n x))) else .fail
def Q0 (g:Ot.T):Tree (Ot.T⊕A1 Rt):=A0f g.1.1 g.1.2.1
def A6m (g:Ot.T):Nat:=Int.toNat g.1.2.1+1
theorem Bci:Bb Tryz.prog 67 Aka (B8 Ot Rt (Dy [.ret] Q0 A6m)):=Br (B5 Aw puOk_nil A0) 1 _ Ot Rt (fun _=>Nat.le_refl _) [.ret] Q0 A6m (fun g=>by kernel_rfl)
theorem Akb {n:Int} (h1:2≤n) (h2:n≤4611686018427387904):∀ (k:Nat) (x:Int),1≤x→x≤4294967296→rt n≤x→x.toNat≤k→iter Q0 (k+1) (Pz n x)=some (A6l (rt n))
 | 0,x,h3,_,_,hk=>by omega
 | k+1,x,h3,h4,h5,hk=>by
  have hq:=Int.ediv_nonneg (show 0≤n by omega) (show 0≤x by omega)
  have hq2:=Int.ediv_le_self x (show 0≤n by omega)
  have e1:Xy n x=(x+n / x) / 2:=by
   unfold Xy
   rw [Int.tdiv_eq_ediv_of_nonneg (show 0≤n by omega),A9 (n:=n / x) (by omega) (by omega),A9 (n:=x+n / x) (by omega) (by omega),Int.tdiv_eq_ediv_of_nonneg (by omega),A9 (by omega) (by omega)]
  have hge:=Amy n x (by omega) h3
  have hx0:(x != 0)=true:=by simp;omega
  have hs:Q0 (Pz n x)=bif decide ((x+n / x) / 2≥x) then .leaf (.inr (A6l x)) else .leaf (.inl (Pz n ((x+n / x) / 2))):=by
   show A0f n x=_
   unfold A0f
   rw [hx0,e1]
   rfl
  cases hd:decide ((x+n / x) / 2≥x) with
  | true =>
   have h7:=of_decide_eq_true hd
   have hx:=Af7 n x (by omega) h3 h5 (by omega)
   rw [← hx]
   exact Ib (by rw [hs,hd];rfl)
  | false =>
   have h7:=of_decide_eq_false hd
   have hr:=(J7 n (by omega)).1
   have hpos:1≤(x+n / x) / 2:=by
    have:1≤rt n:=by
     have hc:=(J7 n (by omega)).2.2
     rcases Int.lt_or_le (rt n) 1 with k | k
     ·have:rt n=0:=by omega
      rw [this] at hc;omega
     ·exact k
    omega
   rw [Lq (g':=Pz n ((x+n / x) / 2)) (by rw [hs,hd];rfl)]
   exact Akb h1 h2 k _ hpos (by omega) hge (by omega)
theorem Aw8 (n:Int) (h0:0≤n) (h:n<2):rt n=n:=Amx n n h0 (by rcases (show n=0∨n=1 by omega) with rfl | rfl <;> decide) (by rcases (show n=0∨n=1 by omega) with rfl | rfl <;> decide)
def An9 (n:Int):Bool:=decide (0≤n∧n≤4611686018427387904)
def RtV (n:Int):Int:=if An9 n then rt n else 0
def RtE (n:Int):Int:=if An9 n then 0 else 3
abbrev Afe:PureT:=Bv [cI] [cI] (fun x=>decide (0≤x.1∧x.1≤4611686018427387904)) (fun x=>(rt x.1,()))
noncomputable def Bcj:Ctx:=I7 Tryz.prog [(110,A6k)] [(67,Tryz.f67)] [((67,V.keyOf Aka),B8 Ot Rt (Dy [.ret] Q0 A6m))]
theorem Ana:CtxOk Bcj:=Cp Aw An8 (fns_cons is_root A0) (Cc rfl (by kernel_rfl) Bci)
def A6n (n:Int):Int:=IntKind.i64.wrap (1*2 ^ min (IntKind.i64.wrap ((IntKind.i64.wrap ((bl (IntKind.u64.wrap n).toNat:Int)+1)).tdiv 2)).toNat IntKind.i64.bits)
def Aff (n:Int):Option (A1 Rt):=iter Q0 (Int.toNat (A6n n)+1) (Pz n (A6n n))
def Afg (n:Int):Tree (TCTs [cI]):=bif decide (n<2) then .leaf (n,()) else bif decide (0≤IntKind.i64.wrap ((IntKind.i64.wrap ((bl (IntKind.u64.wrap n).toNat:Int)+1)).tdiv 2)) then bif isE .ret (Aff n) then .leaf ((D4 .ret (Aff n)).1.1,()) else .fail else .fail
theorem Anb {n:Int} (h0:0≤n) (h1:n≤4611686018427387904):(Afg n).sat (fun y=>y=(rt n,())):=by
 unfold Afg Aff A6n
 have hwr:IntKind.u64.wrap n=n:=by unfold IntKind.wrap;simp [IntKind.bits,IntKind.signed];omega
 have hb:bl n.toNat≤63:=A05 _ 63 (by omega)
 rw [hwr,A9 (n:=(bl n.toNat:Int)+1) (by omega) (by omega),Int.tdiv_eq_ediv_of_nonneg (by omega),A9 (n:=((bl n.toNat:Int)+1) / 2) (by omega) (by omega)]
 refine Bp (fun h2=>?_) (fun h2=>Bp (fun h3=>?_) (fun h3=>?_))
 ·have:=of_decide_eq_true h2
  refine Ak ?_
  rw [Aw8 n h0 this]
 ·have h5:=of_decide_eq_false h2
  have e2:min (((bl n.toNat:Int)+1) / 2).toNat IntKind.i64.bits=(bl n.toNat+1) / 2:=by simp [IntKind.bits];omega
  rw [e2,Int.one_mul]
  have hs:=A6e n h0
  have hk:(bl n.toNat+1) / 2≤32:=by omega
  have hp1:(1:Int)≤2 ^ ((bl n.toNat+1) / 2):=Int.pow_pos (by decide)
  have hp2:(2:Int) ^ ((bl n.toNat+1) / 2)≤4294967296:=by
   have:2 ^ ((bl n.toNat+1) / 2)≤2 ^ 32:=Nat.pow_le_pow_right (by decide) hk
   have h6:((2 ^ ((bl n.toNat+1) / 2):Nat):Int)≤((2 ^ 32:Nat):Int):=by exact_mod_cast this
   rw [Int.natCast_pow] at h6
   simpa using h6
  generalize (2:Int) ^ ((bl n.toNat+1) / 2)=y at hs hp1 hp2
  rw [A9 (by omega) (by omega)]
  have hr:=B7z n y h0 (by omega) hs
  rw [Akb (by omega) h1 y.toNat y hp1 hp2 hr (Nat.le_refl _)]
  exact Ak rfl
 ·have:=of_decide_eq_false h3;omega
theorem Akc:A7 Tryz.prog 67 Afe:=C0 Ana 3 (fun x=>Afg x.1) (fun x=>by kernel_rfl) fun x hok _=>Anb (of_decide_eq_true hok).1 (of_decide_eq_true hok).2
theorem Aw9:Db Tryz.prog [(67,Afe),(66,K7)]:=puOk_cons is_root.plain Akc Bho
namespace V
def Afh (n:Int):Tree (TCTs [cI,cI]) :=
 bif Bs n 0 4611686018427387904 then .leaf (0,3,()) else bif decide (0≤n∧n≤4611686018427387904) then .leaf ((rt n),0,()) else .fail
theorem Anc {n:Int}:(Afh n).sat (fun y=>y=(RtV n,RtE n,())):=by
 unfold Afh
 refine Bp (fun h1=>?_) (fun h1=>Bp (fun h2=>?_) (fun h2=>?_))
 ·have:An9 n=false:=by
   unfold Bs at h1;unfold An9
   simp at h1
   exact decide_eq_false (by omega)
  refine Ak ?_
  unfold RtV RtE;rw [this];rfl
 ·have:An9 n=true:=h2
  refine Ak ?_
  unfold RtV RtE;rw [this];rfl
 ·have:=Fc h1
  have:=of_decide_eq_false h2;omega
abbrev Awa:PureT:=Bv [cI] [cI,cI] (fun x=>true) (fun x=>(RtV x.1,RtE x.1,()))
theorem Bck:A7 Tryz.prog 61 Awa:=C0 (B5 Aw Aw9 (fns_cons is_Root A0)) 2 (fun x=>Afh x.1) (fun x=>by kernel_rfl) fun x hok hw=>Anc
end V
theorem A41 {x lo hi:Int} (h:Bs x lo hi=false):lo≤x∧x≤hi:=by
 unfold Bs at h
 simp only [Bool.or_eq_false_iff,decide_eq_false_iff_not] at h
 omega
def Vp (x y:Int):Bool:=decide (max (max (max x (IntKind.i64.wrap (0-x))) y) (IntKind.i64.wrap (0-y))>4194304)
def Vq (x y:Int):Bool:=decide (min x y < -4194304)
def fpt (x y:Int):Bool:=decide (-4194304≤x∧x≤4194304 ∧ -4194304≤y∧y≤4194304)
theorem Ab3 (x:Int) (h1 : -9223372036854775808≤x) (h2:x≤9223372036854775807):IntKind.i64.wrap (0-x)=if x = -9223372036854775808 then x else -x:=by
 split
 ·rename_i h;subst h;rfl
 ·rw [A9 (by omega) (by omega)];omega
theorem Awb {x y:Int} (hx:inK .i64 x) (hy:inK .i64 y) (h:Vp x y=true):fpt x y=false:=by
 simp only [inK,Jf,Bl] at hx hy
 unfold Vp at h;unfold fpt
 have h1:=of_decide_eq_true h
 rw [Ab3 x (by omega) (by omega),Ab3 y (by omega) (by omega)] at h1
 refine decide_eq_false ?_
 split at h1 <;> split at h1 <;> omega
theorem Awc {x y:Int} (h:Vq x y=true):fpt x y=false:=by
 unfold Vq at h;unfold fpt
 have h1:=of_decide_eq_true h
 refine decide_eq_false ?_
 omega
theorem Bcl {x y:Int} (h:Vp x y=false) (k:Vq x y=false):fpt x y=true:=by
 unfold Vp at h;unfold Vq at k;unfold fpt
 have h1:=of_decide_eq_false h
 have k1:=of_decide_eq_false k
 refine decide_eq_true ?_
 omega
theorem Iv {x y:Int} (h:fpt x y=true) : -4194304≤x∧x≤4194304 ∧ -4194304≤y∧y≤4194304:=of_decide_eq_true h
theorem J8 {α:Type} {R:α→Prop} {x y:Int} {t u:Tree α} (hx:inK .i64 x) (hy:inK .i64 y) (h1:fpt x y=false→t.sat R) (h2:fpt x y=true→u.sat R):(bif Vp x y then t else bif Vq x y then t else u).sat R :=
 Bp (fun h=>h1 (Awb hx hy h)) (fun h=>Bp (fun k=>h1 (Awc k)) (fun k=>h2 (Bcl h k)))
def Gu (x y:Int):Int:=bif fpt x y then 0 else 2
def Lx (x y r:Int):Bool:=fpt x y&&!Bs r 1 65536
def A0g (x y r:Int):Int:=bif Lx x y r then 0 else 2
namespace V
def Awd (ax ay:Int):Tree (TCTs [cI]) :=
 bif Vp ax ay then .leaf (2,()) else bif Vq ax ay then .leaf (2,()) else .leaf (0,())
theorem Awe {ax ay:Int} (a1:inK .i64 ax) (a2:inK .i64 ay):(Awd ax ay).sat (fun y=>y=(Gu ax ay,())):=by
 unfold Awd
 refine J8 a1 a2 (fun k=>?_) (fun k=>?_) <;> (refine Ak ?_;unfold Gu;rw [k];rfl)
abbrev J9:PureT:=Bv [cPt] [cI] (fun x=>true) (fun x=>(Gu x.1.1 x.1.2.1,()))
theorem K0:A7 Tryz.prog 43 J9:=C0 (B5 Aw puOk_nil (fns_cons Hj (fns_cons is_fits A0))) 3 (fun x=>Awd x.1.1 x.1.2.1) (fun x=>by kernel_rfl) fun x hok hw=>Awe hw.1.1 hw.1.2.1
def Awf (px py r:Int):Tree (TCTs [cI]) :=
 bif Vp px py then .leaf (2,()) else bif Vq px py then .leaf (2,()) else
    bif decide (r<1) then .leaf (2,()) else bif decide (r>65536) then .leaf (2,()) else .leaf (0,())
theorem Awg {px py r:Int} (a1:inK .i64 px) (a2:inK .i64 py):(Awf px py r).sat (fun y=>y=(A0g px py r,())):=by
 unfold Awf
 refine J8 a1 a2 (fun k=>?_) (fun k1=>Bp (fun k=>?_) (fun k2=>Bp (fun k=>?_) (fun k3=>?_)))
 ·refine Ak ?_
  unfold A0g Lx;rw [k];rfl
 ·refine Ak ?_
  unfold A0g Lx Bs;rw [k1,k];rfl
 ·have k':decide (65536<r)=true:=k
  refine Ak ?_
  unfold A0g Lx Bs;rw [k1,k2,k'];rfl
 ·have k':decide (65536<r)=false:=k3
  refine Ak ?_
  unfold A0g Lx Bs;rw [k1,k2,k'];rfl
abbrev Wu:PureT:=Bv [A2] [cI] (fun x=>true) (fun x=>(A0g x.1.1.1 x.1.1.2.1 x.1.2.1,()))
theorem Wv:A7 Tryz.prog 155 Wu:=C0 (B5 Aw puOk_nil (fns_cons is_CheckDisc (fns_cons is_fits A0))) 3 (fun x=>Awf x.1.1.1 x.1.1.2.1 x.1.2.1) (fun x=>by kernel_rfl) fun x hok hw=>Awg hw.1.1.1 hw.1.1.2.1
end V
def Awh (ax ay bx bY:Int):Tree (TCTs [cI]) :=
 .leaf ((IntKind.i64.wrap (IntKind.i64.wrap (IntKind.i64.wrap (bx-ax)*IntKind.i64.wrap (bx-ax))+IntKind.i64.wrap (IntKind.i64.wrap (bY-ay)*IntKind.i64.wrap (bY-ay)))),())
theorem Awi {ax ay bx bY:Int} (hok:(fpt ax ay&&fpt bx bY)=true):(Awh ax ay bx bY).sat (fun y=>y=(sq ax ay bx bY,())):=by
 unfold Awh
 rw [Bool.and_eq_true] at hok
 have c1:=Iv hok.1
 have c2:=Iv hok.2
 have b1:=D7 (a:=bx-ax) (b:=bx-ax) (A:=8388608) (B:=8388608) (by omega) (by omega) (by omega) (by omega)
 have b2:=D7 (a:=bY-ay) (b:=bY-ay) (A:=8388608) (B:=8388608) (by omega) (by omega) (by omega) (by omega)
 rw [A9 (n:=bx-ax) (by omega) (by omega),A9 (n:=bY-ay) (by omega) (by omega),A9 (n:=(bx-ax)*(bx-ax)) (by omega) (by omega),A9 (n:=(bY-ay)*(bY-ay)) (by omega) (by omega),A9 (n:=(bx-ax)*(bx-ax)+(bY-ay)*(bY-ay)) (by omega) (by omega)]
 refine Ak ?_
 unfold sq;rfl
abbrev A0h:PureT:=Bv [cPt,cPt] [cI] (fun x=>fpt x.1.1 x.1.2.1&&fpt x.2.1.1 x.2.1.2.1) (fun x=>(sq x.1.1 x.1.2.1 x.2.1.1 x.2.1.2.1,()))
theorem A42:A7 Tryz.prog 68 A0h:=C0 (B5 Aw puOk_nil (fns_cons is_square A0)) 2 (fun x=>Awh x.1.1 x.1.2.1 x.2.1.1 x.2.1.2.1) (fun x=>by kernel_rfl) fun x hok hw=>Awi hok
def Bcm:List (Nat×PureT):=[(68,A0h),(67,Afe),(69,A0d),(66,K7)]
theorem Awj:Db Tryz.prog Bcm:=puOk_cons is_square.plain A42 (puOk_cons is_root.plain Akc Bhp)
def SqR (ax ay bx bY:Int):Int×Int:=bif fpt ax ay&&fpt bx bY then (sq ax ay bx bY,0) else (0,2)
namespace V
def Awk (ax ay bx bY:Int):Tree (TCTs [cI,cI]) :=
 bif Vp ax ay then .leaf (0,2,()) else bif Vq ax ay then .leaf (0,2,()) else
    bif Vp bx bY then .leaf (0,2,()) else bif Vq bx bY then .leaf (0,2,()) else
    bif fpt ax ay&&fpt bx bY then .leaf ((sq ax ay bx bY),0,()) else .fail
theorem Awl {ax ay bx bY:Int} (a1:inK .i64 ax) (a2:inK .i64 ay) (a3:inK .i64 bx) (a4:inK .i64 bY):(Awk ax ay bx bY).sat (fun y=>y=((SqR ax ay bx bY).1,(SqR ax ay bx bY).2,())):=by
 unfold Awk
 refine J8 a1 a2 (fun k=>?_) (fun k1=>J8 a3 a4 (fun k=>?_) (fun k2=>?_))
 ·refine Ak ?_
  unfold SqR;rw [k];rfl
 ·refine Ak ?_
  unfold SqR;rw [k1,k];rfl
 ·rw [k1,k2]
  refine Ak ?_
  unfold SqR;rw [k1,k2];rfl
abbrev Awm:PureT:=Bv [cPt,cPt] [cI,cI] (fun x=>true) (fun x=>((SqR x.1.1 x.1.2.1 x.2.1.1 x.2.1.2.1).1,(SqR x.1.1 x.1.2.1 x.2.1.1 x.2.1.2.1).2,()))
theorem Awn:A7 Tryz.prog 167 Awm:=C0 (B5 Aw Awj (fns_cons is_Square (fns_cons is_fits A0))) 3 (fun x=>Awk x.1.1 x.1.2.1 x.2.1.1 x.2.1.2.1) (fun x=>by kernel_rfl) fun x hok hw=>Awl hw.1.1 hw.1.2.1 hw.2.1.1 hw.2.1.2.1
end V
def ToX (px qx d l:Int):Int:=qx+DW (64*l*(px-qx)) d
def dTo (px py qx qy:Int):Int:=rt (sq px py qx qy*4096)
def TwR (px py qx qy l:Int):(Int×Int)×Int :=
 bif fpt px py&&fpt qx qy then bif Bs l 0 4194304 then ((0,0),3) else bif px==qx&&py==qy then ((0,0),9) else
  bif fpt (ToX px qx (dTo px py qx qy) l) (ToX py qy (dTo px py qx qy) l) then ((ToX px qx (dTo px py qx qy) l,ToX py qy (dTo px py qx qy) l),0) else ((0,0),4)
 else ((0,0),2)
theorem Akd {px py qx qy:Int} (h:fpt px py=true) (k:fpt qx qy=true):0≤sq px py qx qy∧sq px py qx qy≤140737488355328:=by
 have c1:=Iv h
 have c2:=Iv k
 have b1:=D7 (a:=qx-px) (b:=qx-px) (A:=8388608) (B:=8388608) (by omega) (by omega) (by omega) (by omega)
 have b2:=D7 (a:=qy-py) (b:=qy-py) (A:=8388608) (B:=8388608) (by omega) (by omega) (by omega) (by omega)
 have b3:=I2 (qx-px)
 have b4:=I2 (qy-py)
 unfold sq;omega
theorem Awo {px py qx qy:Int} (h:fpt px py=true) (k:fpt qx qy=true) (hne:¬ (px=qx∧py=qy)):1≤dTo px py qx qy∧dTo px py qx qy≤576460752303423488:=by
 have h1:=Akd h k
 have h2:=Bc9 hne
 obtain ⟨r1,r2,r3⟩:=J7 (sq px py qx qy*4096) (by omega)
 unfold dTo
 generalize rt (sq px py qx qy*4096)=d at r1 r2 r3
 have hd:1≤d:=by
  rcases Int.lt_or_le d 1 with x | x
  ·have:d=0:=by omega
   subst this
   omega
  ·exact x
 have:=Int.mul_le_mul_of_nonneg_left hd (show 0≤d by omega)
 omega
namespace V
def Bcn (px py qx qy l:Int):Tree (TCTs [cPt,cI]) :=
 let d:=rt (IntKind.i64.wrap (sq px py qx qy*4096))
    let ux:=IntKind.i64.wrap (IntKind.i64.wrap (64*l)*IntKind.i64.wrap (px-qx))
    let uy:=IntKind.i64.wrap (IntKind.i64.wrap (64*l)*IntKind.i64.wrap (py-qy))
    bif Vp px py then .leaf ((0,0,()),2,()) else bif Vq px py then .leaf ((0,0,()),2,()) else
    bif Vp qx qy then .leaf ((0,0,()),2,()) else bif Vq qx qy then .leaf ((0,0,()),2,()) else
    bif Bs l 0 4194304 then .leaf ((0,0,()),3,()) else
    bif px==qx&&(py==qy&&true) then .leaf ((0,0,()),9,()) else
    bif fpt px py&&fpt qx qy then bif decide (0≤IntKind.i64.wrap (sq px py qx qy*4096)∧IntKind.i64.wrap (sq px py qx qy*4096)≤4611686018427387904) then
    bif Lv ux d then bif Lv uy d then
    bif Vp (IntKind.i64.wrap (qx+DW ux d)) (IntKind.i64.wrap (qy+DW uy d)) then .leaf ((0,0,()),4,()) else bif Vq (IntKind.i64.wrap (qx+DW ux d)) (IntKind.i64.wrap (qy+DW uy d)) then .leaf ((0,0,()),4,()) else
     .leaf (((IntKind.i64.wrap (qx+DW ux d)),(IntKind.i64.wrap (qy+DW uy d)),()),0,())
    else .fail else .fail else .fail else .fail
theorem B4p {px py qx qy l:Int} (a1:inK .i64 px) (a2:inK .i64 py) (a3:inK .i64 qx) (a4:inK .i64 qy):(Bcn px py qx qy l).sat (fun y=>y=(((TwR px py qx qy l).1.1,(TwR px py qx qy l).1.2,()),(TwR px py qx qy l).2,())):=by
 unfold Bcn
 dsimp only
 refine J8 a1 a2 (fun k=>?_) (fun k1=>J8 a3 a4 (fun k=>?_) (fun k2=>Bp (fun k=>?_) (fun k3=>Bp (fun k=>?_) (fun k4=>?_))))
 ·refine Ak ?_
  unfold TwR;rw [k];rfl
 ·refine Ak ?_
  unfold TwR;rw [k1,k];rfl
 ·refine Ak ?_
  unfold TwR;rw [k1,k2,k];rfl
 ·refine Ak ?_
  rw [Bool.and_true] at k
  unfold TwR;rw [k1,k2,k3,k];rfl
 ·have c1:=Iv k1
  have c2:=Iv k2
  have c3:=A41 k3
  rw [Bool.and_true] at k4
  have hne:¬ (px=qx∧py=qy):=by
   intro hh;simp [hh.1,hh.2] at k4
  have s1:=Akd k1 k2
  have hd:=Awo k1 k2 hne
  have b1:=D7 (a:=64*l) (b:=px-qx) (A:=268435456) (B:=8388608) (by omega) (by omega) (by omega) (by omega)
  have b2:=D7 (a:=64*l) (b:=py-qy) (A:=268435456) (B:=8388608) (by omega) (by omega) (by omega) (by omega)
  rw [A9 (n:=sq px py qx qy*4096) (by omega) (by omega),A9 (n:=64*l) (by omega) (by omega),A9 (n:=px-qx) (by omega) (by omega),A9 (n:=py-qy) (by omega) (by omega),A9 (n:=64*l*(px-qx)) (by omega) (by omega),A9 (n:=64*l*(py-qy)) (by omega) (by omega)]
  have hdd:rt (sq px py qx qy*4096)=dTo px py qx qy:=rfl
  rw [hdd]
  have w1:=Ak3 (64*l*(px-qx)) (dTo px py qx qy) 2251799813685248 hd.1 (by omega) (by omega) (by omega)
  have w2:=Ak3 (64*l*(py-qy)) (dTo px py qx qy) 2251799813685248 hd.1 (by omega) (by omega) (by omega)
  rw [A9 (n:=qx+DW (64*l*(px-qx)) (dTo px py qx qy)) (by omega) (by omega),A9 (n:=qy+DW (64*l*(py-qy)) (dTo px py qx qy)) (by omega) (by omega)]
  have v1:Lv (64*l*(px-qx)) (dTo px py qx qy)=true:=by unfold Lv;exact decide_eq_true (by omega)
  have v2:Lv (64*l*(py-qy)) (dTo px py qx qy)=true:=by unfold Lv;exact decide_eq_true (by omega)
  rw [k1,k2,v1,v2]
  have v3:decide (0≤sq px py qx qy*4096∧sq px py qx qy*4096≤4611686018427387904)=true:=decide_eq_true (by omega)
  rw [v3]
  have hT:TwR px py qx qy l=bif fpt (ToX px qx (dTo px py qx qy) l) (ToX py qy (dTo px py qx qy) l) then ((ToX px qx (dTo px py qx qy) l,ToX py qy (dTo px py qx qy) l),0) else ((0,0),4):=by
   unfold TwR;rw [k1,k2,k3,k4];rfl
  rw [hT]
  simp only [cond_true,Bool.and_self]
  refine J8 ?_ ?_ (fun k=>?_) (fun k=>?_)
  ·simp only [inK,Jf,Bl];omega
  ·simp only [inK,Jf,Bl];omega
  ·have k':fpt (ToX px qx (dTo px py qx qy) l) (ToX py qy (dTo px py qx qy) l)=false:=k
   rw [k'];exact Ak rfl
  ·have k':fpt (ToX px qx (dTo px py qx qy) l) (ToX py qy (dTo px py qx qy) l)=true:=k
   rw [k'];exact Ak rfl
abbrev Afi:PureT:=Bv [cPt,cPt,cI] [cPt,cI] (fun x=>true) (fun x=>(((TwR x.1.1 x.1.2.1 x.2.1.1 x.2.1.2.1 x.2.2.1).1.1,(TwR x.1.1 x.1.2.1 x.2.1.1 x.2.1.2.1 x.2.2.1).1.2,()),(TwR x.1.1 x.1.2.1 x.2.1.1 x.2.1.2.1 x.2.2.1).2,()))
theorem Afj:A7 Tryz.prog 23 Afi:=C0 (B5 Aw Awj (fns_cons is_Towards (fns_cons is_fits A0))) 3 (fun x=>Bcn x.1.1 x.1.2.1 x.2.1.1 x.2.1.2.1 x.2.2.1) (fun x=>by kernel_rfl) fun x hok hw=>B4p hw.1.1 hw.1.2.1 hw.2.1.1 hw.2.1.2.1
end V
def Bco (a b c:Int):Tree (TCTs [.b]) :=
 bif decide (a≥b) then .leaf ((decide (a≤c)),()) else .leaf (false,())
theorem B4q {a b c:Int}:(Bco a b c).sat (fun y=>y=(!Bs a b c,())):=by
 unfold Bco
 refine Bp (fun h1=>?_) (fun h1=>?_)
 ·have h2:=of_decide_eq_true h1
  refine Ak ?_
  congr 1
  unfold Bs
  rw [Bool.eq_iff_iff]
  simp only [decide_eq_true_eq,Bool.not_eq_true',Bool.or_eq_false_iff,decide_eq_false_iff_not]
  omega
 ·have h2:=of_decide_eq_false h1
  refine Ak ?_
  congr 1
  have:Bs a b c=true:=by unfold Bs;simp;omega
  rw [this];rfl
abbrev Ake:PureT:=Bv [cI,cI,cI] [.b] (fun x=>true) (fun x=>(!Bs x.1 x.2.1 x.2.2.1,()))
theorem B4r (x y:Int):fpt x y=(!Bs x (-4194304) 4194304&&!Bs y (-4194304) 4194304):=by
 unfold fpt Bs
 rw [Bool.eq_iff_iff]
 simp only [decide_eq_true_eq,Bool.and_eq_true,Bool.not_eq_true',Bool.or_eq_false_iff,decide_eq_false_iff_not]
 omega
namespace V
def Bcr (x y:Int):Tree (TCTs [.b]) :=
 bif !Bs x (-4194304) 4194304 then .leaf ((!Bs y (-4194304) 4194304),()) else .leaf (false,())
theorem B4s {x y:Int}:(Bcr x y).sat (fun z=>z=(fpt x y,())):=by
 unfold Bcr
 rw [B4r]
 refine Bp (fun h1=>?_) (fun h1=>?_) <;> (refine Ak ?_;rw [h1];rfl)
abbrev Akf:PureT:=Bv [cPt] [.b] (fun x=>true) (fun x=>(fpt x.1.1 x.1.2.1,()))
end V
namespace V
end V
namespace V
end V
end Go.Proofs.YtcfanlgpkefogaaGreat
