import Derived.Test.YtlangijnealfjaaGreatZe
import Derived.Test.YtlangijnealfjaaGreatMA
import Derived.Test.YtlangijnealfjaaGreatRows
namespace Go.Proofs.YtlangijnealfjaaGreat
open Go.RowKit V
theorem is_outside:FnIs Tryz.prog (108,Tryz.f108):=⟨Tryz.func108,by kernel_rfl,by kernel_rfl⟩
theorem is_divide:FnIs Tryz.prog (119,Tryz.f119):=⟨Tryz.func119,by kernel_rfl,by kernel_rfl⟩
theorem is_Divide:FnIs Tryz.prog (102,Tryz.f102):=⟨Tryz.func102,by kernel_rfl,by kernel_rfl⟩
theorem is_Root:FnIs Tryz.prog (231,Tryz.f231):=⟨Tryz.func231,by kernel_rfl,by kernel_rfl⟩
theorem is_root:FnIs Tryz.prog (118,Tryz.f118):=⟨Tryz.func118,by kernel_rfl,by kernel_rfl⟩
theorem is_Len64:FnIs Tryz.prog (188,Tryz.f188):=⟨Tryz.func188,by kernel_rfl,by kernel_rfl⟩
theorem is_fits:FnIs Tryz.prog (45,Tryz.f45):=⟨Tryz.func45,by kernel_rfl,by kernel_rfl⟩
theorem is_CheckDisc:FnIs Tryz.prog (43,Tryz.f43):=⟨Tryz.func43,by kernel_rfl,by kernel_rfl⟩
theorem is_square:FnIs Tryz.prog (54,Tryz.f54):=⟨Tryz.func54,by kernel_rfl,by kernel_rfl⟩
theorem is_Square:FnIs Tryz.prog (22,Tryz.f22):=⟨Tryz.func22,by kernel_rfl,by kernel_rfl⟩
theorem is_Towards:FnIs Tryz.prog (59,Tryz.f59):=⟨Tryz.func59,by kernel_rfl,by kernel_rfl⟩
theorem K7:FnIs Tryz.prog (70,Tryz.f70):=⟨Tryz.func70,by kernel_rfl,by kernel_rfl⟩
namespace V
abbrev cPt:TC:=.st [.i .i64,.i .i64]
abbrev A4:TC:=.st [cPt,.i .i64]
end V
abbrev Ju:PureT:=Bj [cI,cI,cI] [.b] (fun _=>true) (fun x=>(Bd x.1 x.2.1 x.2.2.1,()))
theorem Akq {a b c:Int}:(bif decide (a<b) then .leaf (true,()) else .leaf (decide (a>c),()):Tree (TCTs [.b])).sat (fun y=>y=(Bd a b c,())):=by
 refine Bb (fun h1=>?_) (fun h1=>?_) <;> (refine An ?_;unfold Bd;rw [h1];rfl)
theorem Yv:A6 Tryz.prog 108 Ju:=Bl (Ap Ak puOk_nil (fns_cons is_outside A0)) 2 (fun x=>bif decide (x.1<x.2.1) then .leaf (true,()) else .leaf (decide (x.1>x.2.2.1),())) (fun x=>by kernel_rfl) fun _ _ _=>Akq
theorem Bf3:D3 Tryz.prog [(108,Ju)]:=puOk_cons is_outside.plain Yv puOk_nil
def Yw (n d:Int):Tree (TCTs [.st [cI,cI]]) :=
 bif d != 0 then bif d != 0 then
      bif decide (IntKind.i64.wrap (2*n.tmod d)≥d) then .leaf (((IntKind.i64.wrap (IntKind.i64.wrap (n.tdiv d)+1)),(IntKind.i64.wrap (n.tmod d-d)),()),())
      else bif decide (IntKind.i64.wrap (2*n.tmod d)<IntKind.i64.wrap (0-d)) then .leaf (((IntKind.i64.wrap (IntKind.i64.wrap (n.tdiv d)-1)),(IntKind.i64.wrap (n.tmod d+d)),()),())
      else .leaf (((IntKind.i64.wrap (n.tdiv d)),(n.tmod d),()),())
     else .fail else .fail
theorem A9b {n d:Int} (hok:Ld n d=true):(Yw n d).sat (fun y=>y=((DW n d,DR n d,()),())):=by
 unfold Yw
 unfold Ld at hok
 obtain ⟨h1,h2,h3,h4⟩:=of_decide_eq_true hok
 have hd:(d != 0)=true:=by simp;omega
 have ⟨k1,k2⟩:=Ahk n d h3
 have ⟨k3,k4⟩:=Beu n d 1152921504606846976 h3 h1 h2
 rw [A7 (n:=2*n.tmod d) (by omega) (by omega),A7 (n:=n.tdiv d) (by omega) (by omega),A7 (n:=n.tdiv d+1) (by omega) (by omega),A7 (n:=n.tdiv d-1) (by omega) (by omega),
  A7 (n:=n.tmod d-d) (by omega) (by omega),A7 (n:=n.tmod d+d) (by omega) (by omega),A7 (n:=0-d) (by omega) (by omega),hd]
 refine Bb (fun _=>Bb (fun _=>Bb (fun h5=>?_) (fun h5=>Bb (fun h6=>?_) (fun h6=>?_))) (fun h=>by simp at h)) (fun h=>by simp at h)
 ·obtain ⟨e1,e2⟩:=Bev n d h3 (of_decide_eq_true h5)
  refine An ?_
  rw [e1,e2]
 ·obtain ⟨e1,e2⟩:=Bew n d h3 (by have:=of_decide_eq_true h6;omega)
  refine An ?_
  rw [e1,e2]
 ·obtain ⟨e1,e2⟩:=B9i n d h3 (by have:=of_decide_eq_false h5;omega) (by have:=of_decide_eq_false h6;omega)
  refine An ?_
  rw [e1,e2]
abbrev Yx:PureT:=Bj [cI,cI] [.st [cI,cI]] (fun x=>Ld x.1 x.2.1) (fun x=>((DW x.1 x.2.1,DR x.1 x.2.1,()),()))
theorem Akr:A6 Tryz.prog 119 Yx:=Bl (Ap Ak puOk_nil (fns_cons is_divide A0)) 2 (fun x=>Yw x.1 x.2.1) (fun x=>by kernel_rfl) fun x hok hw=>A9b hok
theorem Bf4:D3 Tryz.prog [(119,Yx),(108,Ju)]:=puOk_cons is_divide.plain Akr Bf3
namespace V
def B9t (n d:Int):Tree (TCTs [.st [cI,cI],cI]) :=
 bif Bd n (-1152921504606846976) 1152921504606846976 then .leaf ((0,0,()),3,())
     else bif Bd d 1 1152921504606846976 then .leaf ((0,0,()),3,())
     else bif Ld n d then
      bif (DW n d==0)&&((DR n d==0)&&true) then .leaf ((0,0,()),0,())
      else .leaf (((DW n d),(DR n d),()),0,())
     else .fail
theorem B1n {n d:Int}:(B9t n d).sat (fun y=>y=((DvW n d,DvR n d,()),DvE n d,())):=by
 unfold B9t
 refine Bb (fun h1=>?_) (fun h1=>Bb (fun h2=>?_) (fun h2=>Bb (fun h3=>?_) (fun h3=>?_)))
 ·obtain ⟨e1,e2,e3⟩:=B11 n d h1
  refine An ?_
  rw [e1,e2,e3]
 ·obtain ⟨e1,e2,e3⟩:=B12 n d h2
  refine An ?_
  rw [e1,e2,e3]
 ·have ⟨k1,k2⟩:=F4 h1
  have ⟨k3,k4⟩:=F4 h2
  obtain ⟨e1,e2,e3⟩:=Asp n d k1 k2 k3 k4
  refine Bb (fun h4=>?_) (fun h4=>?_)
  ·simp at h4
   refine An ?_
   rw [e1,e2,e3,h4.1,h4.2]
  ·refine An ?_
   rw [e1,e2,e3]
 ·rw [Yr,h1,h2] at h3;simp at h3
abbrev A9c:PureT:=Bj [cI,cI] [.st [cI,cI],cI] (fun x=>true) (fun x=>((DvW x.1 x.2.1,DvR x.1 x.2.1,()),DvE x.1 x.2.1,()))
theorem At2:A6 Tryz.prog 102 A9c:=Bl (Ap Ak Bf4 (fns_cons is_Divide A0)) 2 (fun x=>B9t x.1 x.2.1) (fun x=>by kernel_rfl) fun x hok hw=>B1n
end V
def tbB:ByteArray:=⟨((List.range 256).map fun i=>UInt8.ofNat (if i=0 then 0 else Nat.log2 i+1)).toArray⟩
def B1o (i:Nat):Int:=((tbB.data.toList.getD i 0).toNat:Int)
theorem B1p:∀ i,i<256→(tbB.data.toList.getD i 0).toNat=bl i:=by decide +kernel
theorem At3 (i:Nat) (h:i<256):B1o i=bl i:=by unfold B1o;rw [B1p i h]
attribute [irreducible] B1o tbB
def At4 (n k:Int):Int:=n.fdiv (2 ^ min (Int.toNat k) IntKind.u64.bits)
def B1q (m s:Int):Tree (TCTs [cI]):=bif decide (0≤IntKind.u8.wrap m∧IntKind.u8.wrap m<256) then .leaf (IntKind.i64.wrap (s+IntKind.i64.wrap (B1o (IntKind.u8.wrap m).toNat)),()) else .fail
def B1r (m s:Int):Tree (TCTs [cI]):=bif decide (m≥256) then B1q (At4 m 8) (IntKind.i64.wrap (s+8)) else B1q m s
def A5c (m s:Int):Tree (TCTs [cI]):=bif decide (m≥65536) then B1r (At4 m 16) (IntKind.i64.wrap (s+16)) else B1r m s
def B9u (n:Int):Tree (TCTs [cI]):=bif decide (n≥4294967296) then A5c (At4 n 32) 32 else A5c n 0
section
attribute [local irreducible] Tree.sat
theorem Yy (n k:Nat) (hk:k≤64):At4 (n:Int) (k:Int)=((n / 2 ^ k:Nat):Int):=by
 unfold At4
 have:min (Int.toNat (k:Int)) IntKind.u64.bits=k:=by simp [IntKind.bits];omega
 rw [this,Int.fdiv_eq_ediv_of_nonneg _ (by exact Int.le_of_lt (Int.pow_pos (by decide)))]
 simp
theorem Aks (m:Nat) (h:m<256):IntKind.u8.wrap (m:Int)=m:=by
 unfold IntKind.wrap;simp [IntKind.bits,IntKind.signed];omega
theorem Ahr {R:TCTs [cI]→Prop} (m s:Nat) (hm:m<256) (hs:s≤56) (h:R (((s+bl m:Nat):Int),())):(B1q (m:Int) (s:Int)).sat R:=by
 unfold B1q
 rw [Aks m hm]
 have hb:bl m≤8:=Ys m 8 (by omega)
 refine Bb (fun _=>?_) (fun h=>?_)
 ·rw [Int.toNat_natCast,At3 m hm,A7 (n:=(bl m:Int)) (by omega) (by omega),A7 (n:=(s:Int)+(bl m:Int)) (by omega) (by omega)]
  refine An ?_
  rw [← Int.natCast_add];exact h
 ·have:=of_decide_eq_false h;omega
theorem Ahs {R:TCTs [cI]→Prop} (m s:Nat) (hm:m<65536) (hs:s≤48) (h:R (((s+bl m:Nat):Int),())):(B1r (m:Int) (s:Int)).sat R:=by
 unfold B1r
 refine Bb (fun h1=>?_) (fun h1=>?_)
 ·have h2:=of_decide_eq_true h1
  rw [A7 (n:=(s:Int)+8) (by omega) (by omega)]
  have e1:=Yy m 8 (by omega)
  simp only [Int.cast_ofNat_Int] at e1
  rw [e1]
  have e2:(s:Int)+8=((s+8:Nat):Int):=by simp
  rw [e2]
  refine Ahr (m / 2 ^ 8) (s+8) (by omega) (by omega) ?_
  have:=Adk m 8 (by omega)
  rwa [show s+8+bl (m / 2 ^ 8)=s+bl m by omega]
 ·have h2:=of_decide_eq_false h1
  exact Ahr m s (by omega) (by omega) h
theorem Aht {R:TCTs [cI]→Prop} (m s:Nat) (hm:m<4294967296) (hs:s≤32) (h:R (((s+bl m:Nat):Int),())):(A5c (m:Int) (s:Int)).sat R:=by
 unfold A5c
 refine Bb (fun h1=>?_) (fun h1=>?_)
 ·have h2:=of_decide_eq_true h1
  rw [A7 (n:=(s:Int)+16) (by omega) (by omega)]
  have e1:=Yy m 16 (by omega)
  simp only [Int.cast_ofNat_Int] at e1
  rw [e1]
  have e2:(s:Int)+16=((s+16:Nat):Int):=by simp
  rw [e2]
  refine Ahs (m / 2 ^ 16) (s+16) (by omega) (by omega) ?_
  have:=Adk m 16 (by omega)
  rwa [show s+16+bl (m / 2 ^ 16)=s+bl m by omega]
 ·have h2:=of_decide_eq_false h1
  exact Ahs m s (by omega) (by omega) h
theorem B1s {R:TCTs [cI]→Prop} (n:Int) (h0:0≤n) (h1:n≤18446744073709551615) (h:R ((bl n.toNat:Int),())):(B9u n).sat R:=by
 obtain ⟨m,rfl⟩:=Int.eq_ofNat_of_zero_le h0
 rw [Int.toNat_natCast] at h
 unfold B9u
 refine Bb (fun h1=>?_) (fun h1=>?_)
 ·have h2:=of_decide_eq_true h1
  have e1:=Yy m 32 (by omega)
  simp only [Int.cast_ofNat_Int] at e1
  rw [e1]
  refine Aht (m / 2 ^ 32) 32 (by omega) (by omega) ?_
  have:=Adk m 32 (by omega)
  rwa [show 32+bl (m / 2 ^ 32)=bl m by omega]
 ·have h2:=of_decide_eq_false h1
  exact Aht m 0 (by omega) (by omega) (by rwa [Nat.zero_add])
end
abbrev A5d:PureT:=Bj [.i .u64] [cI] (fun _=>true) (fun x=>((bl x.1.toNat:Int),()))
theorem At5:A6 Tryz.prog 188 A5d:=Bl (Ap Ak puOk_nil (fns_cons is_Len64 A0)) 2 (fun x=>B9u x.1) (fun x=>by kernel_rfl) fun x _ hw=>B1s x.1 hw.1.1 hw.1.2 rfl
theorem Akt:D3 Tryz.prog [(188,A5d)]:=puOk_cons is_Len64.plain At5 puOk_nil
noncomputable def Ahu:Code:=(Al (bodyOf Tryz.f118)).getD 0 .skip
def O2:Lay:={ keys:=[0,3],ks:=[.d cI,.d cI],bs:=[],n:=25,nx:=1000,marks:=[] }
def B1t:Lay:={ keys:=[2],ks:=[.d cI],bs:=[],n:=25,nx:=1000,marks:=[] }
def Qm:XE→Lay:=fun _=>B1t
def Pa (n x:Int):O2.T:=((n,x,()),())
def A5e (r:Int):A1 Qm:=⟨.ret,((r,()),())⟩
def X2 (n x:Int):Int:=IntKind.i64.wrap ((IntKind.i64.wrap (x+IntKind.i64.wrap (n.tdiv x))).tdiv 2)
def Yz (n x:Int):Tree (O2.T⊕A1 Qm):=bif x != 0 then bif decide (X2 n x≥x) then .leaf (.inr (A5e x)) else .leaf (.inl (Pa n (X2 n x))) else .fail
def Pb (g:O2.T):Tree (O2.T⊕A1 Qm):=Yz g.1.1 g.1.2.1
def A5f (g:O2.T):Nat:=Int.toNat g.1.2.1+1
theorem B9v:Aw Tryz.prog 118 Ahu (Ar O2 Qm (D7 [.ret] Pb A5f)):=B8 (Ap Ak puOk_nil A0) 1 _ O2 Qm (fun _=>Nat.le_refl _) [.ret] Pb A5f (fun g=>by kernel_rfl)
theorem Ahv {n:Int} (h1:2≤n) (h2:n≤4611686018427387904):∀ (k:Nat) (x:Int),1≤x→x≤4294967296→rt n≤x→x.toNat≤k→iter Pb (k+1) (Pa n x)=some (A5e (rt n))
 | 0,x,h3,_,_,hk=>by omega
 | k+1,x,h3,h4,h5,hk=>by
  have hq:=Int.ediv_nonneg (show 0≤n by omega) (show 0≤x by omega)
  have hq2:=Int.ediv_le_self x (show 0≤n by omega)
  have e1:X2 n x=(x+n / x) / 2:=by
   unfold X2
   rw [Int.tdiv_eq_ediv_of_nonneg (show 0≤n by omega),A7 (n:=n / x) (by omega) (by omega),A7 (n:=x+n / x) (by omega) (by omega),Int.tdiv_eq_ediv_of_nonneg (by omega),A7 (by omega) (by omega)]
  have hge:=Akj n x (by omega) h3
  have hx0:(x != 0)=true:=by simp;omega
  have hs:Pb (Pa n x)=bif decide ((x+n / x) / 2≥x) then .leaf (.inr (A5e x)) else .leaf (.inl (Pa n ((x+n / x) / 2))):=by
   show Yz n x=_
   unfold Yz
   rw [hx0,e1]
   rfl
  cases hd:decide ((x+n / x) / 2≥x) with
  | true =>
   have h7:=of_decide_eq_true hd
   have hx:=Adl n x (by omega) h3 h5 (by omega)
   rw [← hx]
   exact G7 (by rw [hs,hd];rfl)
  | false =>
   have h7:=of_decide_eq_false hd
   have hr:=(Ip n (by omega)).1
   have hpos:1≤(x+n / x) / 2:=by
    have:1≤rt n:=by
     have hc:=(Ip n (by omega)).2.2
     rcases Int.lt_or_le (rt n) 1 with k | k
     ·have:rt n=0:=by omega
      rw [this] at hc;omega
     ·exact k
    omega
   rw [Ez (g':=Pa n ((x+n / x) / 2)) (by rw [hs,hd];rfl)]
   exact Ahv h1 h2 k _ hpos (by omega) hge (by omega)
theorem At6 (n:Int) (h0:0≤n) (h:n<2):rt n=n:=Aki n n h0 (by rcases (show n=0∨n=1 by omega) with rfl | rfl <;> decide) (by rcases (show n=0∨n=1 by omega) with rfl | rfl <;> decide)
def Aku (n:Int):Bool:=decide (0≤n∧n≤4611686018427387904)
def RtV (n:Int):Int:=if Aku n then rt n else 0
def RtE (n:Int):Int:=if Aku n then 0 else 3
abbrev Adr:PureT:=Bj [cI] [cI] (fun x=>decide (0≤x.1∧x.1≤4611686018427387904)) (fun x=>(rt x.1,()))
noncomputable def B9w:Ctx:=G4 Tryz.prog [(188,A5d)] [(118,Tryz.f118)] [((118,V.keyOf Ahu),Ar O2 Qm (D7 [.ret] Pb A5f))]
theorem Akv:CtxOk B9w:=Bs Ak Akt (fns_cons is_root A0) (Cc rfl (by kernel_rfl) B9v)
def A5g (n:Int):Int:=IntKind.i64.wrap (1*2 ^ min (IntKind.i64.wrap ((IntKind.i64.wrap ((bl (IntKind.u64.wrap n).toNat:Int)+1)).tdiv 2)).toNat IntKind.i64.bits)
def Ads (n:Int):Option (A1 Qm):=iter Pb (Int.toNat (A5g n)+1) (Pa n (A5g n))
def Adt (n:Int):Tree (TCTs [cI]):=bif decide (n<2) then .leaf (n,()) else bif decide (0≤IntKind.i64.wrap ((IntKind.i64.wrap ((bl (IntKind.u64.wrap n).toNat:Int)+1)).tdiv 2)) then bif isE .ret (Ads n) then .leaf ((C2 .ret (Ads n)).1.1,()) else .fail else .fail
theorem Akw {n:Int} (h0:0≤n) (h1:n≤4611686018427387904):(Adt n).sat (fun y=>y=(rt n,())):=by
 unfold Adt Ads A5g
 have hwr:IntKind.u64.wrap n=n:=by unfold IntKind.wrap;simp [IntKind.bits,IntKind.signed];omega
 have hb:bl n.toNat≤63:=Ys _ 63 (by omega)
 rw [hwr,A7 (n:=(bl n.toNat:Int)+1) (by omega) (by omega),Int.tdiv_eq_ediv_of_nonneg (by omega),A7 (n:=((bl n.toNat:Int)+1) / 2) (by omega) (by omega)]
 refine Bb (fun h2=>?_) (fun h2=>Bb (fun h3=>?_) (fun h3=>?_))
 ·have:=of_decide_eq_true h2
  refine An ?_
  rw [At6 n h0 this]
 ·have h5:=of_decide_eq_false h2
  have e2:min (((bl n.toNat:Int)+1) / 2).toNat IntKind.i64.bits=(bl n.toNat+1) / 2:=by simp [IntKind.bits];omega
  rw [e2,Int.one_mul]
  have hs:=A58 n h0
  have hk:(bl n.toNat+1) / 2≤32:=by omega
  have hp1:(1:Int)≤2 ^ ((bl n.toNat+1) / 2):=Int.pow_pos (by decide)
  have hp2:(2:Int) ^ ((bl n.toNat+1) / 2)≤4294967296:=by
   have:2 ^ ((bl n.toNat+1) / 2)≤2 ^ 32:=Nat.pow_le_pow_right (by decide) hk
   have h6:((2 ^ ((bl n.toNat+1) / 2):Nat):Int)≤((2 ^ 32:Nat):Int):=by exact_mod_cast this
   rw [Int.natCast_pow] at h6
   simpa using h6
  generalize (2:Int) ^ ((bl n.toNat+1) / 2)=y at hs hp1 hp2
  rw [A7 (by omega) (by omega)]
  have hr:=B5c n y h0 (by omega) hs
  rw [Ahv (by omega) h1 y.toNat y hp1 hp2 hr (Nat.le_refl _)]
  exact An rfl
 ·have:=of_decide_eq_false h3;omega
theorem Ahw:A6 Tryz.prog 118 Adr:=Bl Akv 3 (fun x=>Adt x.1) (fun x=>by kernel_rfl) fun x hok _=>Akw (of_decide_eq_true hok).1 (of_decide_eq_true hok).2
theorem At7:D3 Tryz.prog [(118,Adr),(108,Ju)]:=puOk_cons is_root.plain Ahw Bf3
namespace V
def Adu (n:Int):Tree (TCTs [cI,cI]) :=
 bif Bd n 0 4611686018427387904 then .leaf (0,3,()) else bif decide (0≤n∧n≤4611686018427387904) then .leaf ((rt n),0,()) else .fail
theorem Akx {n:Int}:(Adu n).sat (fun y=>y=(RtV n,RtE n,())):=by
 unfold Adu
 refine Bb (fun h1=>?_) (fun h1=>Bb (fun h2=>?_) (fun h2=>?_))
 ·have:Aku n=false:=by
   unfold Bd at h1;unfold Aku
   simp at h1
   exact decide_eq_false (by omega)
  refine An ?_
  unfold RtV RtE;rw [this];rfl
 ·have:Aku n=true:=h2
  refine An ?_
  unfold RtV RtE;rw [this];rfl
 ·have:=F4 h1
  have:=of_decide_eq_false h2;omega
abbrev At8:PureT:=Bj [cI] [cI,cI] (fun x=>true) (fun x=>(RtV x.1,RtE x.1,()))
theorem B9x:A6 Tryz.prog 231 At8:=Bl (Ap Ak At7 (fns_cons is_Root A0)) 2 (fun x=>Adu x.1) (fun x=>by kernel_rfl) fun x hok hw=>Akx
end V
theorem A33 {x lo hi:Int} (h:Bd x lo hi=false):lo≤x∧x≤hi:=by
 unfold Bd at h
 simp only [Bool.or_eq_false_iff,decide_eq_false_iff_not] at h
 omega
def Ua (x y:Int):Bool:=decide (max (max (max x (IntKind.i64.wrap (0-x))) y) (IntKind.i64.wrap (0-y))>4194304)
def Uk (x y:Int):Bool:=decide (min x y < -4194304)
def fpt (x y:Int):Bool:=decide (-4194304≤x∧x≤4194304 ∧ -4194304≤y∧y≤4194304)
theorem A9d (x:Int) (h1 : -9223372036854775808≤x) (h2:x≤9223372036854775807):IntKind.i64.wrap (0-x)=if x = -9223372036854775808 then x else -x:=by
 split
 ·rename_i h;subst h;rfl
 ·rw [A7 (by omega) (by omega)];omega
theorem At9 {x y:Int} (hx:inK .i64 x) (hy:inK .i64 y) (h:Ua x y=true):fpt x y=false:=by
 simp only [inK,Iz,B7] at hx hy
 unfold Ua at h;unfold fpt
 have h1:=of_decide_eq_true h
 rw [A9d x (by omega) (by omega),A9d y (by omega) (by omega)] at h1
 refine decide_eq_false ?_
 split at h1 <;> split at h1 <;> omega
theorem Ata {x y:Int} (h:Uk x y=true):fpt x y=false:=by
 unfold Uk at h;unfold fpt
 have h1:=of_decide_eq_true h
 refine decide_eq_false ?_
 omega
theorem B9y {x y:Int} (h:Ua x y=false) (k:Uk x y=false):fpt x y=true:=by
 unfold Ua at h;unfold Uk at k;unfold fpt
 have h1:=of_decide_eq_false h
 have k1:=of_decide_eq_false k
 refine decide_eq_true ?_
 omega
theorem J8 {x y:Int} (h:fpt x y=true) : -4194304≤x∧x≤4194304 ∧ -4194304≤y∧y≤4194304:=of_decide_eq_true h
theorem Iq {α:Type} {R:α→Prop} {x y:Int} {t u:Tree α} (hx:inK .i64 x) (hy:inK .i64 y) (h1:fpt x y=false→t.sat R) (h2:fpt x y=true→u.sat R):(bif Ua x y then t else bif Uk x y then t else u).sat R :=
 Bb (fun h=>h1 (At9 hx hy h)) (fun h=>Bb (fun k=>h1 (Ata k)) (fun k=>h2 (B9y h k)))
def Hv (x y:Int):Int:=bif fpt x y then 0 else 2
def Le (x y r:Int):Bool:=fpt x y&&!Bd r 1 65536
def Z0 (x y r:Int):Int:=bif Le x y r then 0 else 2
namespace V
def Atb (ax ay:Int):Tree (TCTs [cI]) :=
 bif Ua ax ay then .leaf (2,()) else bif Uk ax ay then .leaf (2,()) else .leaf (0,())
theorem Atc {ax ay:Int} (a1:inK .i64 ax) (a2:inK .i64 ay):(Atb ax ay).sat (fun y=>y=(Hv ax ay,())):=by
 unfold Atb
 refine Iq a1 a2 (fun k=>?_) (fun k=>?_) <;> (refine An ?_;unfold Hv;rw [k];rfl)
abbrev Kp:PureT:=Bj [cPt] [cI] (fun x=>true) (fun x=>(Hv x.1.1 x.1.2.1,()))
theorem Ml:A6 Tryz.prog 70 Kp:=Bl (Ap Ak puOk_nil (fns_cons K7 (fns_cons is_fits A0))) 3 (fun x=>Atb x.1.1 x.1.2.1) (fun x=>by kernel_rfl) fun x hok hw=>Atc hw.1.1 hw.1.2.1
def Atd (px py r:Int):Tree (TCTs [cI]) :=
 bif Ua px py then .leaf (2,()) else bif Uk px py then .leaf (2,()) else
    bif decide (r<1) then .leaf (2,()) else bif decide (r>65536) then .leaf (2,()) else .leaf (0,())
theorem Ate {px py r:Int} (a1:inK .i64 px) (a2:inK .i64 py):(Atd px py r).sat (fun y=>y=(Z0 px py r,())):=by
 unfold Atd
 refine Iq a1 a2 (fun k=>?_) (fun k1=>Bb (fun k=>?_) (fun k2=>Bb (fun k=>?_) (fun k3=>?_)))
 ·refine An ?_
  unfold Z0 Le;rw [k];rfl
 ·refine An ?_
  unfold Z0 Le Bd;rw [k1,k];rfl
 ·have k':decide (65536<r)=true:=k
  refine An ?_
  unfold Z0 Le Bd;rw [k1,k2,k'];rfl
 ·have k':decide (65536<r)=false:=k3
  refine An ?_
  unfold Z0 Le Bd;rw [k1,k2,k'];rfl
abbrev Vl:PureT:=Bj [A4] [cI] (fun x=>true) (fun x=>(Z0 x.1.1.1 x.1.1.2.1 x.1.2.1,()))
theorem Vm:A6 Tryz.prog 43 Vl:=Bl (Ap Ak puOk_nil (fns_cons is_CheckDisc (fns_cons is_fits A0))) 3 (fun x=>Atd x.1.1.1 x.1.1.2.1 x.1.2.1) (fun x=>by kernel_rfl) fun x hok hw=>Ate hw.1.1.1 hw.1.1.2.1
end V
def Atf (ax ay bx bY:Int):Tree (TCTs [cI]) :=
 .leaf ((IntKind.i64.wrap (IntKind.i64.wrap (IntKind.i64.wrap (bx-ax)*IntKind.i64.wrap (bx-ax))+IntKind.i64.wrap (IntKind.i64.wrap (bY-ay)*IntKind.i64.wrap (bY-ay)))),())
theorem Atg {ax ay bx bY:Int} (hok:(fpt ax ay&&fpt bx bY)=true):(Atf ax ay bx bY).sat (fun y=>y=(sq ax ay bx bY,())):=by
 unfold Atf
 rw [Bool.and_eq_true] at hok
 have c1:=J8 hok.1
 have c2:=J8 hok.2
 have b1:=D6 (a:=bx-ax) (b:=bx-ax) (A:=8388608) (B:=8388608) (by omega) (by omega) (by omega) (by omega)
 have b2:=D6 (a:=bY-ay) (b:=bY-ay) (A:=8388608) (B:=8388608) (by omega) (by omega) (by omega) (by omega)
 rw [A7 (n:=bx-ax) (by omega) (by omega),A7 (n:=bY-ay) (by omega) (by omega),A7 (n:=(bx-ax)*(bx-ax)) (by omega) (by omega),A7 (n:=(bY-ay)*(bY-ay)) (by omega) (by omega),A7 (n:=(bx-ax)*(bx-ax)+(bY-ay)*(bY-ay)) (by omega) (by omega)]
 refine An ?_
 unfold sq;rfl
abbrev Z1:PureT:=Bj [cPt,cPt] [cI] (fun x=>fpt x.1.1 x.1.2.1&&fpt x.2.1.1 x.2.1.2.1) (fun x=>(sq x.1.1 x.1.2.1 x.2.1.1 x.2.1.2.1,()))
theorem A34:A6 Tryz.prog 54 Z1:=Bl (Ap Ak puOk_nil (fns_cons is_square A0)) 2 (fun x=>Atf x.1.1 x.1.2.1 x.2.1.1 x.2.1.2.1) (fun x=>by kernel_rfl) fun x hok hw=>Atg hok
def B9z:List (Nat×PureT):=[(54,Z1),(118,Adr),(119,Yx),(108,Ju)]
theorem Ath:D3 Tryz.prog B9z:=puOk_cons is_square.plain A34 (puOk_cons is_root.plain Ahw Bf4)
def SqR (ax ay bx bY:Int):Int×Int:=bif fpt ax ay&&fpt bx bY then (sq ax ay bx bY,0) else (0,2)
namespace V
def Ati (ax ay bx bY:Int):Tree (TCTs [cI,cI]) :=
 bif Ua ax ay then .leaf (0,2,()) else bif Uk ax ay then .leaf (0,2,()) else
    bif Ua bx bY then .leaf (0,2,()) else bif Uk bx bY then .leaf (0,2,()) else
    bif fpt ax ay&&fpt bx bY then .leaf ((sq ax ay bx bY),0,()) else .fail
theorem Atj {ax ay bx bY:Int} (a1:inK .i64 ax) (a2:inK .i64 ay) (a3:inK .i64 bx) (a4:inK .i64 bY):(Ati ax ay bx bY).sat (fun y=>y=((SqR ax ay bx bY).1,(SqR ax ay bx bY).2,())):=by
 unfold Ati
 refine Iq a1 a2 (fun k=>?_) (fun k1=>Iq a3 a4 (fun k=>?_) (fun k2=>?_))
 ·refine An ?_
  unfold SqR;rw [k];rfl
 ·refine An ?_
  unfold SqR;rw [k1,k];rfl
 ·rw [k1,k2]
  refine An ?_
  unfold SqR;rw [k1,k2];rfl
abbrev Atk:PureT:=Bj [cPt,cPt] [cI,cI] (fun x=>true) (fun x=>((SqR x.1.1 x.1.2.1 x.2.1.1 x.2.1.2.1).1,(SqR x.1.1 x.1.2.1 x.2.1.1 x.2.1.2.1).2,()))
theorem Atl:A6 Tryz.prog 22 Atk:=Bl (Ap Ak Ath (fns_cons is_Square (fns_cons is_fits A0))) 3 (fun x=>Ati x.1.1 x.1.2.1 x.2.1.1 x.2.1.2.1) (fun x=>by kernel_rfl) fun x hok hw=>Atj hw.1.1 hw.1.2.1 hw.2.1.1 hw.2.1.2.1
end V
def ToX (px qx d l:Int):Int:=qx+DW (64*l*(px-qx)) d
def dTo (px py qx qy:Int):Int:=rt (sq px py qx qy*4096)
def TwR (px py qx qy l:Int):(Int×Int)×Int :=
 bif fpt px py&&fpt qx qy then bif Bd l 0 4194304 then ((0,0),3) else bif px==qx&&py==qy then ((0,0),9) else
  bif fpt (ToX px qx (dTo px py qx qy) l) (ToX py qy (dTo px py qx qy) l) then ((ToX px qx (dTo px py qx qy) l,ToX py qy (dTo px py qx qy) l),0) else ((0,0),4)
 else ((0,0),2)
theorem Ahx {px py qx qy:Int} (h:fpt px py=true) (k:fpt qx qy=true):0≤sq px py qx qy∧sq px py qx qy≤140737488355328:=by
 have c1:=J8 h
 have c2:=J8 k
 have b1:=D6 (a:=qx-px) (b:=qx-px) (A:=8388608) (B:=8388608) (by omega) (by omega) (by omega) (by omega)
 have b2:=D6 (a:=qy-py) (b:=qy-py) (A:=8388608) (B:=8388608) (by omega) (by omega) (by omega) (by omega)
 have b3:=Jn (qx-px)
 have b4:=Jn (qy-py)
 unfold sq;omega
theorem Atm {px py qx qy:Int} (h:fpt px py=true) (k:fpt qx qy=true) (hne:¬ (px=qx∧py=qy)):1≤dTo px py qx qy∧dTo px py qx qy≤576460752303423488:=by
 have h1:=Ahx h k
 have h2:=B9j hne
 obtain ⟨r1,r2,r3⟩:=Ip (sq px py qx qy*4096) (by omega)
 unfold dTo
 generalize rt (sq px py qx qy*4096)=d at r1 r2 r3
 have hd:1≤d:=by
  rcases Int.lt_or_le d 1 with x | x
  ·have:d=0:=by omega
   subst this
   omega
  ·exact x
 have:=Int.mul_le_mul_of_nonneg_left hd (show 0≤d by omega)
 omega
namespace V
def Ba0 (px py qx qy l:Int):Tree (TCTs [cPt,cI]) :=
 let d:=rt (IntKind.i64.wrap (sq px py qx qy*4096))
    let ux:=IntKind.i64.wrap (IntKind.i64.wrap (64*l)*IntKind.i64.wrap (px-qx))
    let uy:=IntKind.i64.wrap (IntKind.i64.wrap (64*l)*IntKind.i64.wrap (py-qy))
    bif Ua px py then .leaf ((0,0,()),2,()) else bif Uk px py then .leaf ((0,0,()),2,()) else
    bif Ua qx qy then .leaf ((0,0,()),2,()) else bif Uk qx qy then .leaf ((0,0,()),2,()) else
    bif Bd l 0 4194304 then .leaf ((0,0,()),3,()) else
    bif px==qx&&(py==qy&&true) then .leaf ((0,0,()),9,()) else
    bif fpt px py&&fpt qx qy then bif decide (0≤IntKind.i64.wrap (sq px py qx qy*4096)∧IntKind.i64.wrap (sq px py qx qy*4096)≤4611686018427387904) then
    bif Ld ux d then bif Ld uy d then
    bif Ua (IntKind.i64.wrap (qx+DW ux d)) (IntKind.i64.wrap (qy+DW uy d)) then .leaf ((0,0,()),4,()) else bif Uk (IntKind.i64.wrap (qx+DW ux d)) (IntKind.i64.wrap (qy+DW uy d)) then .leaf ((0,0,()),4,()) else
     .leaf (((IntKind.i64.wrap (qx+DW ux d)),(IntKind.i64.wrap (qy+DW uy d)),()),0,())
    else .fail else .fail else .fail else .fail
theorem B1u {px py qx qy l:Int} (a1:inK .i64 px) (a2:inK .i64 py) (a3:inK .i64 qx) (a4:inK .i64 qy):(Ba0 px py qx qy l).sat (fun y=>y=(((TwR px py qx qy l).1.1,(TwR px py qx qy l).1.2,()),(TwR px py qx qy l).2,())):=by
 unfold Ba0
 dsimp only
 refine Iq a1 a2 (fun k=>?_) (fun k1=>Iq a3 a4 (fun k=>?_) (fun k2=>Bb (fun k=>?_) (fun k3=>Bb (fun k=>?_) (fun k4=>?_))))
 ·refine An ?_
  unfold TwR;rw [k];rfl
 ·refine An ?_
  unfold TwR;rw [k1,k];rfl
 ·refine An ?_
  unfold TwR;rw [k1,k2,k];rfl
 ·refine An ?_
  rw [Bool.and_true] at k
  unfold TwR;rw [k1,k2,k3,k];rfl
 ·have c1:=J8 k1
  have c2:=J8 k2
  have c3:=A33 k3
  rw [Bool.and_true] at k4
  have hne:¬ (px=qx∧py=qy):=by
   intro hh;simp [hh.1,hh.2] at k4
  have s1:=Ahx k1 k2
  have hd:=Atm k1 k2 hne
  have b1:=D6 (a:=64*l) (b:=px-qx) (A:=268435456) (B:=8388608) (by omega) (by omega) (by omega) (by omega)
  have b2:=D6 (a:=64*l) (b:=py-qy) (A:=268435456) (B:=8388608) (by omega) (by omega) (by omega) (by omega)
  rw [A7 (n:=sq px py qx qy*4096) (by omega) (by omega),A7 (n:=64*l) (by omega) (by omega),A7 (n:=px-qx) (by omega) (by omega),A7 (n:=py-qy) (by omega) (by omega),A7 (n:=64*l*(px-qx)) (by omega) (by omega),A7 (n:=64*l*(py-qy)) (by omega) (by omega)]
  have hdd:rt (sq px py qx qy*4096)=dTo px py qx qy:=rfl
  rw [hdd]
  have w1:=Ahl (64*l*(px-qx)) (dTo px py qx qy) 2251799813685248 hd.1 (by omega) (by omega) (by omega)
  have w2:=Ahl (64*l*(py-qy)) (dTo px py qx qy) 2251799813685248 hd.1 (by omega) (by omega) (by omega)
  rw [A7 (n:=qx+DW (64*l*(px-qx)) (dTo px py qx qy)) (by omega) (by omega),A7 (n:=qy+DW (64*l*(py-qy)) (dTo px py qx qy)) (by omega) (by omega)]
  have v1:Ld (64*l*(px-qx)) (dTo px py qx qy)=true:=by unfold Ld;exact decide_eq_true (by omega)
  have v2:Ld (64*l*(py-qy)) (dTo px py qx qy)=true:=by unfold Ld;exact decide_eq_true (by omega)
  rw [k1,k2,v1,v2]
  have v3:decide (0≤sq px py qx qy*4096∧sq px py qx qy*4096≤4611686018427387904)=true:=decide_eq_true (by omega)
  rw [v3]
  have hT:TwR px py qx qy l=bif fpt (ToX px qx (dTo px py qx qy) l) (ToX py qy (dTo px py qx qy) l) then ((ToX px qx (dTo px py qx qy) l,ToX py qy (dTo px py qx qy) l),0) else ((0,0),4):=by
   unfold TwR;rw [k1,k2,k3,k4];rfl
  rw [hT]
  simp only [cond_true,Bool.and_self]
  refine Iq ?_ ?_ (fun k=>?_) (fun k=>?_)
  ·simp only [inK,Iz,B7];omega
  ·simp only [inK,Iz,B7];omega
  ·have k':fpt (ToX px qx (dTo px py qx qy) l) (ToX py qy (dTo px py qx qy) l)=false:=k
   rw [k'];exact An rfl
  ·have k':fpt (ToX px qx (dTo px py qx qy) l) (ToX py qy (dTo px py qx qy) l)=true:=k
   rw [k'];exact An rfl
abbrev Adv:PureT:=Bj [cPt,cPt,cI] [cPt,cI] (fun x=>true) (fun x=>(((TwR x.1.1 x.1.2.1 x.2.1.1 x.2.1.2.1 x.2.2.1).1.1,(TwR x.1.1 x.1.2.1 x.2.1.1 x.2.1.2.1 x.2.2.1).1.2,()),(TwR x.1.1 x.1.2.1 x.2.1.1 x.2.1.2.1 x.2.2.1).2,()))
theorem Adw:A6 Tryz.prog 59 Adv:=Bl (Ap Ak Ath (fns_cons is_Towards (fns_cons is_fits A0))) 3 (fun x=>Ba0 x.1.1 x.1.2.1 x.2.1.1 x.2.1.2.1 x.2.2.1) (fun x=>by kernel_rfl) fun x hok hw=>B1u hw.1.1 hw.1.2.1 hw.2.1.1 hw.2.1.2.1
end V
def Ba1 (a b c:Int):Tree (TCTs [.b]) :=
 bif decide (a≥b) then .leaf ((decide (a≤c)),()) else .leaf (false,())
theorem B1v {a b c:Int}:(Ba1 a b c).sat (fun y=>y=(!Bd a b c,())):=by
 unfold Ba1
 refine Bb (fun h1=>?_) (fun h1=>?_)
 ·have h2:=of_decide_eq_true h1
  refine An ?_
  congr 1
  unfold Bd
  rw [Bool.eq_iff_iff]
  simp only [decide_eq_true_eq,Bool.not_eq_true',Bool.or_eq_false_iff,decide_eq_false_iff_not]
  omega
 ·have h2:=of_decide_eq_false h1
  refine An ?_
  congr 1
  have:Bd a b c=true:=by unfold Bd;simp;omega
  rw [this];rfl
abbrev Ahy:PureT:=Bj [cI,cI,cI] [.b] (fun x=>true) (fun x=>(!Bd x.1 x.2.1 x.2.2.1,()))
theorem B1w (x y:Int):fpt x y=(!Bd x (-4194304) 4194304&&!Bd y (-4194304) 4194304):=by
 unfold fpt Bd
 rw [Bool.eq_iff_iff]
 simp only [decide_eq_true_eq,Bool.and_eq_true,Bool.not_eq_true',Bool.or_eq_false_iff,decide_eq_false_iff_not]
 omega
namespace V
def Ba4 (x y:Int):Tree (TCTs [.b]) :=
 bif !Bd x (-4194304) 4194304 then .leaf ((!Bd y (-4194304) 4194304),()) else .leaf (false,())
theorem B1x {x y:Int}:(Ba4 x y).sat (fun z=>z=(fpt x y,())):=by
 unfold Ba4
 rw [B1w]
 refine Bb (fun h1=>?_) (fun h1=>?_) <;> (refine An ?_;rw [h1];rfl)
abbrev Ahz:PureT:=Bj [cPt] [.b] (fun x=>true) (fun x=>(fpt x.1.1 x.1.2.1,()))
end V
namespace V
end V
namespace V
end V
end Go.Proofs.YtlangijnealfjaaGreat
