import Derived.Test.YtlangijnealfjaaGreatZe
import Derived.Test.YtlangijnealfjaaGreatMA
import Derived.Test.YtlangijnealfjaaGreatRows
namespace Go.Proofs.YtlangijnealfjaaGreat
open Go.RowKit V
theorem is_outside:FnIs Tryz.prog (108,Tryz.f108):=⟨Tryz.func108,by kernel_rfl,by kernel_rfl⟩
theorem is_divide:FnIs Tryz.prog (119,Tryz.f119):=⟨Tryz.func119,by kernel_rfl,by kernel_rfl⟩
theorem is_Divide:FnIs Tryz.prog (102,Tryz.f102):=⟨Tryz.func102,by kernel_rfl,by kernel_rfl⟩
theorem is_Root:FnIs Tryz.prog (231,Tryz.f231):=⟨Tryz.func231,by kernel_rfl,by kernel_rfl⟩
theorem is_root:FnIs Tryz.prog (118,Tryz.f118):=⟨Tryz.func118,by kernel_rfl,by kernel_rfl⟩
theorem is_Len64:FnIs Tryz.prog (188,Tryz.f188):=⟨Tryz.func188,by kernel_rfl,by kernel_rfl⟩
theorem is_fits:FnIs Tryz.prog (45,Tryz.f45):=⟨Tryz.func45,by kernel_rfl,by kernel_rfl⟩
theorem is_CheckDisc:FnIs Tryz.prog (43,Tryz.f43):=⟨Tryz.func43,by kernel_rfl,by kernel_rfl⟩
theorem is_square:FnIs Tryz.prog (54,Tryz.f54):=⟨Tryz.func54,by kernel_rfl,by kernel_rfl⟩
theorem is_Square:FnIs Tryz.prog (22,Tryz.f22):=⟨Tryz.func22,by kernel_rfl,by kernel_rfl⟩
theorem is_Towards:FnIs Tryz.prog (59,Tryz.f59):=⟨Tryz.func59,by kernel_rfl,by kernel_rfl⟩
theorem Ja:FnIs Tryz.prog (70,Tryz.f70):=⟨Tryz.func70,by kernel_rfl,by kernel_rfl⟩
namespace V
abbrev cPt:TC:=.st [.i .i64,.i .i64]
abbrev A1:TC:=.st [cPt,.i .i64]
end V
abbrev Ix:PureT:=Be [cI,cI,cI] [.b] (fun _=>true) (fun x=>(B6 x.1 x.2.1 x.2.2.1,()))
theorem Ah9 {a b c:Int}:(bif decide (a<b) then .leaf (true,()) else .leaf (decide (a>c),()):Tree (TCTs [.b])).sat (fun y=>y=(B6 a b c,())):=by
 refine B2 (fun h1=>?_) (fun h1=>?_) <;> (refine Ai ?_;unfold B6;rw [h1];rfl)
theorem X0:A7 Tryz.prog 108 Ix:=Bh (Ap Am puOk_nil (fns_cons is_outside A3)) 2 (fun x=>bif decide (x.1<x.2.1) then .leaf (true,()) else .leaf (decide (x.1>x.2.2.1),())) (fun x=>by kernel_rfl) fun _ _ _=>Ah9
theorem B84:Ci Tryz.prog [(108,Ix)]:=puOk_cons is_outside.plain X0 puOk_nil
def X1 (n d:Int):Tree (TCTs [.st [cI,cI]]) :=
 bif d != 0 then bif d != 0 then
      bif decide (IntKind.i64.wrap (2*n.tmod d)≥d) then .leaf (((IntKind.i64.wrap (IntKind.i64.wrap (n.tdiv d)+1)),(IntKind.i64.wrap (n.tmod d-d)),()),())
      else bif decide (IntKind.i64.wrap (2*n.tmod d)<IntKind.i64.wrap (0-d)) then .leaf (((IntKind.i64.wrap (IntKind.i64.wrap (n.tdiv d)-1)),(IntKind.i64.wrap (n.tmod d+d)),()),())
      else .leaf (((IntKind.i64.wrap (n.tdiv d)),(n.tmod d),()),())
     else .fail else .fail
theorem A75 {n d:Int} (hok:K8 n d=true):(X1 n d).sat (fun y=>y=((DW n d,DR n d,()),())):=by
 unfold X1
 unfold K8 at hok
 obtain ⟨h1,h2,h3,h4⟩:=of_decide_eq_true hok
 have hd:(d != 0)=true:=by simp;omega
 have ⟨k1,k2⟩:=Aef n d h3
 have ⟨k3,k4⟩:=B7v n d 1152921504606846976 h3 h1 h2
 rw [A6 (n:=2*n.tmod d) (by omega) (by omega),A6 (n:=n.tdiv d) (by omega) (by omega),A6 (n:=n.tdiv d+1) (by omega) (by omega),A6 (n:=n.tdiv d-1) (by omega) (by omega),
  A6 (n:=n.tmod d-d) (by omega) (by omega),A6 (n:=n.tmod d+d) (by omega) (by omega),A6 (n:=0-d) (by omega) (by omega),hd]
 refine B2 (fun _=>B2 (fun _=>B2 (fun h5=>?_) (fun h5=>B2 (fun h6=>?_) (fun h6=>?_))) (fun h=>by simp at h)) (fun h=>by simp at h)
 ·obtain ⟨e1,e2⟩:=B7w n d h3 (of_decide_eq_true h5)
  refine Ai ?_
  rw [e1,e2]
 ·obtain ⟨e1,e2⟩:=B7x n d h3 (by have:=of_decide_eq_true h6;omega)
  refine Ai ?_
  rw [e1,e2]
 ·obtain ⟨e1,e2⟩:=B37 n d h3 (by have:=of_decide_eq_false h5;omega) (by have:=of_decide_eq_false h6;omega)
  refine Ai ?_
  rw [e1,e2]
abbrev X2:PureT:=Be [cI,cI] [.st [cI,cI]] (fun x=>K8 x.1 x.2.1) (fun x=>((DW x.1 x.2.1,DR x.1 x.2.1,()),()))
theorem Aha:A7 Tryz.prog 119 X2:=Bh (Ap Am puOk_nil (fns_cons is_divide A3)) 2 (fun x=>X1 x.1 x.2.1) (fun x=>by kernel_rfl) fun x hok hw=>A75 hok
theorem B85:Ci Tryz.prog [(119,X2),(108,Ix)]:=puOk_cons is_divide.plain Aha B84
namespace V
def B3h (n d:Int):Tree (TCTs [.st [cI,cI],cI]) :=
 bif B6 n (-1152921504606846976) 1152921504606846976 then .leaf ((0,0,()),3,())
     else bif B6 d 1 1152921504606846976 then .leaf ((0,0,()),3,())
     else bif K8 n d then
      bif (DW n d==0)&&((DR n d==0)&&true) then .leaf ((0,0,()),0,())
      else .leaf (((DW n d),(DR n d),()),0,())
     else .fail
theorem Awt {n d:Int}:(B3h n d).sat (fun y=>y=((DvW n d,DvR n d,()),DvE n d,())):=by
 unfold B3h
 refine B2 (fun h1=>?_) (fun h1=>B2 (fun h2=>?_) (fun h2=>B2 (fun h3=>?_) (fun h3=>?_)))
 ·obtain ⟨e1,e2,e3⟩:=Awc n d h1
  refine Ai ?_
  rw [e1,e2,e3]
 ·obtain ⟨e1,e2,e3⟩:=Awd n d h2
  refine Ai ?_
  rw [e1,e2,e3]
 ·have ⟨k1,k2⟩:=Eb h1
  have ⟨k3,k4⟩:=Eb h2
  obtain ⟨e1,e2,e3⟩:=Aot n d k1 k2 k3 k4
  refine B2 (fun h4=>?_) (fun h4=>?_)
  ·simp at h4
   refine Ai ?_
   rw [e1,e2,e3,h4.1,h4.2]
  ·refine Ai ?_
   rw [e1,e2,e3]
 ·rw [Wv,h1,h2] at h3;simp at h3
abbrev A76:PureT:=Be [cI,cI] [.st [cI,cI],cI] (fun x=>true) (fun x=>((DvW x.1 x.2.1,DvR x.1 x.2.1,()),DvE x.1 x.2.1,()))
theorem Ap5:A7 Tryz.prog 102 A76:=Bh (Ap Am B85 (fns_cons is_Divide A3)) 2 (fun x=>B3h x.1 x.2.1) (fun x=>by kernel_rfl) fun x hok hw=>Awt
end V
def tbB:ByteArray:=⟨((List.range 256).map fun i=>UInt8.ofNat (if i=0 then 0 else Nat.log2 i+1)).toArray⟩
def Awu (i:Nat):Int:=((tbB.data.toList.getD i 0).toNat:Int)
theorem Awv:∀ i,i<256→(tbB.data.toList.getD i 0).toNat=bl i:=by decide +kernel
theorem Ap6 (i:Nat) (h:i<256):Awu i=bl i:=by unfold Awu;rw [Awv i h]
attribute [irreducible] Awu tbB
def Ap7 (n k:Int):Int:=n.fdiv (2 ^ min (Int.toNat k) IntKind.u64.bits)
def Aww (m s:Int):Tree (TCTs [cI]):=bif decide (0≤IntKind.u8.wrap m∧IntKind.u8.wrap m<256) then .leaf (IntKind.i64.wrap (s+IntKind.i64.wrap (Awu (IntKind.u8.wrap m).toNat)),()) else .fail
def Awx (m s:Int):Tree (TCTs [cI]):=bif decide (m≥256) then Aww (Ap7 m 8) (IntKind.i64.wrap (s+8)) else Aww m s
def A3b (m s:Int):Tree (TCTs [cI]):=bif decide (m≥65536) then Awx (Ap7 m 16) (IntKind.i64.wrap (s+16)) else Awx m s
def B3i (n:Int):Tree (TCTs [cI]):=bif decide (n≥4294967296) then A3b (Ap7 n 32) 32 else A3b n 0
section
attribute [local irreducible] Tree.sat
theorem X3 (n k:Nat) (hk:k≤64):Ap7 (n:Int) (k:Int)=((n / 2 ^ k:Nat):Int):=by
 unfold Ap7
 have:min (Int.toNat (k:Int)) IntKind.u64.bits=k:=by simp [IntKind.bits];omega
 rw [this,Int.fdiv_eq_ediv_of_nonneg _ (by exact Int.le_of_lt (Int.pow_pos (by decide)))]
 simp
theorem Ahb (m:Nat) (h:m<256):IntKind.u8.wrap (m:Int)=m:=by
 unfold IntKind.wrap;simp [IntKind.bits,IntKind.signed];omega
theorem Ael {R:TCTs [cI]→Prop} (m s:Nat) (hm:m<256) (hs:s≤56) (h:R (((s+bl m:Nat):Int),())):(Aww (m:Int) (s:Int)).sat R:=by
 unfold Aww
 rw [Ahb m hm]
 have hb:bl m≤8:=Ww m 8 (by omega)
 refine B2 (fun _=>?_) (fun h=>?_)
 ·rw [Int.toNat_natCast,Ap6 m hm,A6 (n:=(bl m:Int)) (by omega) (by omega),A6 (n:=(s:Int)+(bl m:Int)) (by omega) (by omega)]
  refine Ai ?_
  rw [← Int.natCast_add];exact h
 ·have:=of_decide_eq_false h;omega
theorem Aem {R:TCTs [cI]→Prop} (m s:Nat) (hm:m<65536) (hs:s≤48) (h:R (((s+bl m:Nat):Int),())):(Awx (m:Int) (s:Int)).sat R:=by
 unfold Awx
 refine B2 (fun h1=>?_) (fun h1=>?_)
 ·have h2:=of_decide_eq_true h1
  rw [A6 (n:=(s:Int)+8) (by omega) (by omega)]
  have e1:=X3 m 8 (by omega)
  simp only [Int.cast_ofNat_Int] at e1
  rw [e1]
  have e2:(s:Int)+8=((s+8:Nat):Int):=by simp
  rw [e2]
  refine Ael (m / 2 ^ 8) (s+8) (by omega) (by omega) ?_
  have:=Aas m 8 (by omega)
  rwa [show s+8+bl (m / 2 ^ 8)=s+bl m by omega]
 ·have h2:=of_decide_eq_false h1
  exact Ael m s (by omega) (by omega) h
theorem Aen {R:TCTs [cI]→Prop} (m s:Nat) (hm:m<4294967296) (hs:s≤32) (h:R (((s+bl m:Nat):Int),())):(A3b (m:Int) (s:Int)).sat R:=by
 unfold A3b
 refine B2 (fun h1=>?_) (fun h1=>?_)
 ·have h2:=of_decide_eq_true h1
  rw [A6 (n:=(s:Int)+16) (by omega) (by omega)]
  have e1:=X3 m 16 (by omega)
  simp only [Int.cast_ofNat_Int] at e1
  rw [e1]
  have e2:(s:Int)+16=((s+16:Nat):Int):=by simp
  rw [e2]
  refine Aem (m / 2 ^ 16) (s+16) (by omega) (by omega) ?_
  have:=Aas m 16 (by omega)
  rwa [show s+16+bl (m / 2 ^ 16)=s+bl m by omega]
 ·have h2:=of_decide_eq_false h1
  exact Aem m s (by omega) (by omega) h
theorem Awy {R:TCTs [cI]→Prop} (n:Int) (h0:0≤n) (h1:n≤18446744073709551615) (h:R ((bl n.toNat:Int),())):(B3i n).sat R:=by
 obtain ⟨m,rfl⟩:=Int.eq_ofNat_of_zero_le h0
 rw [Int.toNat_natCast] at h
 unfold B3i
 refine B2 (fun h1=>?_) (fun h1=>?_)
 ·have h2:=of_decide_eq_true h1
  have e1:=X3 m 32 (by omega)
  simp only [Int.cast_ofNat_Int] at e1
  rw [e1]
  refine Aen (m / 2 ^ 32) 32 (by omega) (by omega) ?_
  have:=Aas m 32 (by omega)
  rwa [show 32+bl (m / 2 ^ 32)=bl m by omega]
 ·have h2:=of_decide_eq_false h1
  exact Aen m 0 (by omega) (by omega) (by rwa [Nat.zero_add])
end
abbrev A3c:PureT:=Be [.i .u64] [cI] (fun _=>true) (fun x=>((bl x.1.toNat:Int),()))
theorem Ap8:A7 Tryz.prog 188 A3c:=Bh (Ap Am puOk_nil (fns_cons is_Len64 A3)) 2 (fun x=>B3i x.1) (fun x=>by kernel_rfl) fun x _ hw=>Awy x.1 hw.1.1 hw.1.2 rfl
theorem Ahc:Ci Tryz.prog [(188,A3c)]:=puOk_cons is_Len64.plain Ap8 puOk_nil
noncomputable def Aeo:Code:=(Aj (bodyOf Tryz.f118)).getD 0 .skip
def Mi:Lay:={ keys:=[0,3],ks:=[.d cI,.d cI],bs:=[],n:=25,nx:=1000,marks:=[] }
def Awz:Lay:={ keys:=[2],ks:=[.d cI],bs:=[],n:=25,nx:=1000,marks:=[] }
def P6:XE→Lay:=fun _=>Awz
def Nq (n x:Int):Mi.T:=((n,x,()),())
def A3d (r:Int):A0 P6:=⟨.ret,((r,()),())⟩
def V9 (n x:Int):Int:=IntKind.i64.wrap ((IntKind.i64.wrap (x+IntKind.i64.wrap (n.tdiv x))).tdiv 2)
def X4 (n x:Int):Tree (Mi.T⊕A0 P6):=bif x != 0 then bif decide (V9 n x≥x) then .leaf (.inr (A3d x)) else .leaf (.inl (Nq n (V9 n x))) else .fail
def Nr (g:Mi.T):Tree (Mi.T⊕A0 P6):=X4 g.1.1 g.1.2.1
def A3e (g:Mi.T):Nat:=Int.toNat g.1.2.1+1
theorem B3j:Ax Tryz.prog 118 Aeo (As Mi P6 (De [.ret] Nr A3e)):=Bo (Ap Am puOk_nil A3) 1 _ Mi P6 (fun _=>Nat.le_refl _) [.ret] Nr A3e (fun g=>by kernel_rfl)
theorem Aep {n:Int} (h1:2≤n) (h2:n≤4611686018427387904):∀ (k:Nat) (x:Int),1≤x→x≤4294967296→rt n≤x→x.toNat≤k→iter Nr (k+1) (Nq n x)=some (A3d (rt n))
 | 0,x,h3,_,_,hk=>by omega
 | k+1,x,h3,h4,h5,hk=>by
  have hq:=Int.ediv_nonneg (show 0≤n by omega) (show 0≤x by omega)
  have hq2:=Int.ediv_le_self x (show 0≤n by omega)
  have e1:V9 n x=(x+n / x) / 2:=by
   unfold V9
   rw [Int.tdiv_eq_ediv_of_nonneg (show 0≤n by omega),A6 (n:=n / x) (by omega) (by omega),A6 (n:=x+n / x) (by omega) (by omega),Int.tdiv_eq_ediv_of_nonneg (by omega),A6 (by omega) (by omega)]
  have hge:=Ah2 n x (by omega) h3
  have hx0:(x != 0)=true:=by simp;omega
  have hs:Nr (Nq n x)=bif decide ((x+n / x) / 2≥x) then .leaf (.inr (A3d x)) else .leaf (.inl (Nq n ((x+n / x) / 2))):=by
   show X4 n x=_
   unfold X4
   rw [hx0,e1]
   rfl
  cases hd:decide ((x+n / x) / 2≥x) with
  | true =>
   have h7:=of_decide_eq_true hd
   have hx:=Aat n x (by omega) h3 h5 (by omega)
   rw [← hx]
   exact Gy (by rw [hs,hd];rfl)
  | false =>
   have h7:=of_decide_eq_false hd
   have hr:=(Gt n (by omega)).1
   have hpos:1≤(x+n / x) / 2:=by
    have:1≤rt n:=by
     have hc:=(Gt n (by omega)).2.2
     rcases Int.lt_or_le (rt n) 1 with k | k
     ·have:rt n=0:=by omega
      rw [this] at hc;omega
     ·exact k
    omega
   rw [O6 (g':=Nq n ((x+n / x) / 2)) (by rw [hs,hd];rfl)]
   exact Aep h1 h2 k _ hpos (by omega) hge (by omega)
theorem Ap9 (n:Int) (h0:0≤n) (h:n<2):rt n=n:=Ah1 n n h0 (by rcases (show n=0∨n=1 by omega) with rfl | rfl <;> decide) (by rcases (show n=0∨n=1 by omega) with rfl | rfl <;> decide)
def Ahd (n:Int):Bool:=decide (0≤n∧n≤4611686018427387904)
def RtV (n:Int):Int:=if Ahd n then rt n else 0
def RtE (n:Int):Int:=if Ahd n then 0 else 3
abbrev Aaz:PureT:=Be [cI] [cI] (fun x=>decide (0≤x.1∧x.1≤4611686018427387904)) (fun x=>(rt x.1,()))
noncomputable def B3k:Ctx:=Ib Tryz.prog [(188,A3c)] [(118,Tryz.f118)] [((118,V.keyOf Aeo),As Mi P6 (De [.ret] Nr A3e))]
theorem Ahe:CtxOk B3k:=Cj Am Ahc (fns_cons is_root A3) (Bw rfl (by kernel_rfl) B3j)
def A3f (n:Int):Int:=IntKind.i64.wrap (1*2 ^ min (IntKind.i64.wrap ((IntKind.i64.wrap ((bl (IntKind.u64.wrap n).toNat:Int)+1)).tdiv 2)).toNat IntKind.i64.bits)
def Ab0 (n:Int):Option (A0 P6):=iter Nr (Int.toNat (A3f n)+1) (Nq n (A3f n))
def Ab1 (n:Int):Tree (TCTs [cI]):=bif decide (n<2) then .leaf (n,()) else bif decide (0≤IntKind.i64.wrap ((IntKind.i64.wrap ((bl (IntKind.u64.wrap n).toNat:Int)+1)).tdiv 2)) then bif isE .ret (Ab0 n) then .leaf ((C3 .ret (Ab0 n)).1.1,()) else .fail else .fail
theorem Ahf {n:Int} (h0:0≤n) (h1:n≤4611686018427387904):(Ab1 n).sat (fun y=>y=(rt n,())):=by
 unfold Ab1 Ab0 A3f
 have hwr:IntKind.u64.wrap n=n:=by unfold IntKind.wrap;simp [IntKind.bits,IntKind.signed];omega
 have hb:bl n.toNat≤63:=Ww _ 63 (by omega)
 rw [hwr,A6 (n:=(bl n.toNat:Int)+1) (by omega) (by omega),Int.tdiv_eq_ediv_of_nonneg (by omega),A6 (n:=((bl n.toNat:Int)+1) / 2) (by omega) (by omega)]
 refine B2 (fun h2=>?_) (fun h2=>B2 (fun h3=>?_) (fun h3=>?_))
 ·have:=of_decide_eq_true h2
  refine Ai ?_
  rw [Ap9 n h0 this]
 ·have h5:=of_decide_eq_false h2
  have e2:min (((bl n.toNat:Int)+1) / 2).toNat IntKind.i64.bits=(bl n.toNat+1) / 2:=by simp [IntKind.bits];omega
  rw [e2,Int.one_mul]
  have hs:=A37 n h0
  have hk:(bl n.toNat+1) / 2≤32:=by omega
  have hp1:(1:Int)≤2 ^ ((bl n.toNat+1) / 2):=Int.pow_pos (by decide)
  have hp2:(2:Int) ^ ((bl n.toNat+1) / 2)≤4294967296:=by
   have:2 ^ ((bl n.toNat+1) / 2)≤2 ^ 32:=Nat.pow_le_pow_right (by decide) hk
   have h6:((2 ^ ((bl n.toNat+1) / 2):Nat):Int)≤((2 ^ 32:Nat):Int):=by exact_mod_cast this
   rw [Int.natCast_pow] at h6
   simpa using h6
  generalize (2:Int) ^ ((bl n.toNat+1) / 2)=y at hs hp1 hp2
  rw [A6 (by omega) (by omega)]
  have hr:=Azl n y h0 (by omega) hs
  rw [Aep (by omega) h1 y.toNat y hp1 hp2 hr (Nat.le_refl _)]
  exact Ai rfl
 ·have:=of_decide_eq_false h3;omega
theorem Aeq:A7 Tryz.prog 118 Aaz:=Bh Ahe 3 (fun x=>Ab1 x.1) (fun x=>by kernel_rfl) fun x hok _=>Ahf (of_decide_eq_true hok).1 (of_decide_eq_true hok).2
theorem Apa:Ci Tryz.prog [(118,Aaz),(108,Ix)]:=puOk_cons is_root.plain Aeq B84
namespace V
def Ab2 (n:Int):Tree (TCTs [cI,cI]) :=
 bif B6 n 0 4611686018427387904 then .leaf (0,3,()) else bif decide (0≤n∧n≤4611686018427387904) then .leaf ((rt n),0,()) else .fail
theorem Ahg {n:Int}:(Ab2 n).sat (fun y=>y=(RtV n,RtE n,())):=by
 unfold Ab2
 refine B2 (fun h1=>?_) (fun h1=>B2 (fun h2=>?_) (fun h2=>?_))
 ·have:Ahd n=false:=by
   unfold B6 at h1;unfold Ahd
   simp at h1
   exact decide_eq_false (by omega)
  refine Ai ?_
  unfold RtV RtE;rw [this];rfl
 ·have:Ahd n=true:=h2
  refine Ai ?_
  unfold RtV RtE;rw [this];rfl
 ·have:=Eb h1
  have:=of_decide_eq_false h2;omega
abbrev Apb:PureT:=Be [cI] [cI,cI] (fun x=>true) (fun x=>(RtV x.1,RtE x.1,()))
theorem B3l:A7 Tryz.prog 231 Apb:=Bh (Ap Am Apa (fns_cons is_Root A3)) 2 (fun x=>Ab2 x.1) (fun x=>by kernel_rfl) fun x hok hw=>Ahg
end V
theorem A1e {x lo hi:Int} (h:B6 x lo hi=false):lo≤x∧x≤hi:=by
 unfold B6 at h
 simp only [Bool.or_eq_false_iff,decide_eq_false_iff_not] at h
 omega
def Sg (x y:Int):Bool:=decide (max (max (max x (IntKind.i64.wrap (0-x))) y) (IntKind.i64.wrap (0-y))>4194304)
def Si (x y:Int):Bool:=decide (min x y < -4194304)
def fpt (x y:Int):Bool:=decide (-4194304≤x∧x≤4194304 ∧ -4194304≤y∧y≤4194304)
theorem A77 (x:Int) (h1 : -9223372036854775808≤x) (h2:x≤9223372036854775807):IntKind.i64.wrap (0-x)=if x = -9223372036854775808 then x else -x:=by
 split
 ·rename_i h;subst h;rfl
 ·rw [A6 (by omega) (by omega)];omega
theorem Apc {x y:Int} (hx:inK .i64 x) (hy:inK .i64 y) (h:Sg x y=true):fpt x y=false:=by
 simp only [inK,I0,B0] at hx hy
 unfold Sg at h;unfold fpt
 have h1:=of_decide_eq_true h
 rw [A77 x (by omega) (by omega),A77 y (by omega) (by omega)] at h1
 refine decide_eq_false ?_
 split at h1 <;> split at h1 <;> omega
theorem Apd {x y:Int} (h:Si x y=true):fpt x y=false:=by
 unfold Si at h;unfold fpt
 have h1:=of_decide_eq_true h
 refine decide_eq_false ?_
 omega
theorem B3m {x y:Int} (h:Sg x y=false) (k:Si x y=false):fpt x y=true:=by
 unfold Sg at h;unfold Si at k;unfold fpt
 have h1:=of_decide_eq_false h
 have k1:=of_decide_eq_false k
 refine decide_eq_true ?_
 omega
theorem G7 {x y:Int} (h:fpt x y=true) : -4194304≤x∧x≤4194304 ∧ -4194304≤y∧y≤4194304:=of_decide_eq_true h
theorem Hr {α:Type} {R:α→Prop} {x y:Int} {t u:Tree α} (hx:inK .i64 x) (hy:inK .i64 y) (h1:fpt x y=false→t.sat R) (h2:fpt x y=true→u.sat R):(bif Sg x y then t else bif Si x y then t else u).sat R :=
 B2 (fun h=>h1 (Apc hx hy h)) (fun h=>B2 (fun k=>h1 (Apd k)) (fun k=>h2 (B3m h k)))
def u_ck (x y:Int):Int:=bif fpt x y then 0 else 2
def K9 (x y r:Int):Bool:=fpt x y&&!B6 r 1 65536
def X5 (x y r:Int):Int:=bif K9 x y r then 0 else 2
namespace V
def Ape (ax ay:Int):Tree (TCTs [cI]) :=
 bif Sg ax ay then .leaf (2,()) else bif Si ax ay then .leaf (2,()) else .leaf (0,())
theorem Apf {ax ay:Int} (a1:inK .i64 ax) (a2:inK .i64 ay):(Ape ax ay).sat (fun y=>y=(u_ck ax ay,())):=by
 unfold Ape
 refine Hr a1 a2 (fun k=>?_) (fun k=>?_) <;> (refine Ai ?_;unfold u_ck;rw [k];rfl)
abbrev Ld:PureT:=Be [cPt] [cI] (fun x=>true) (fun x=>(u_ck x.1.1 x.1.2.1,()))
theorem Ns:A7 Tryz.prog 70 Ld:=Bh (Ap Am puOk_nil (fns_cons Ja (fns_cons is_fits A3))) 3 (fun x=>Ape x.1.1 x.1.2.1) (fun x=>by kernel_rfl) fun x hok hw=>Apf hw.1.1 hw.1.2.1
def Apg (px py r:Int):Tree (TCTs [cI]) :=
 bif Sg px py then .leaf (2,()) else bif Si px py then .leaf (2,()) else
    bif decide (r<1) then .leaf (2,()) else bif decide (r>65536) then .leaf (2,()) else .leaf (0,())
theorem Aph {px py r:Int} (a1:inK .i64 px) (a2:inK .i64 py):(Apg px py r).sat (fun y=>y=(X5 px py r,())):=by
 unfold Apg
 refine Hr a1 a2 (fun k=>?_) (fun k1=>B2 (fun k=>?_) (fun k2=>B2 (fun k=>?_) (fun k3=>?_)))
 ·refine Ai ?_
  unfold X5 K9;rw [k];rfl
 ·refine Ai ?_
  unfold X5 K9 B6;rw [k1,k];rfl
 ·have k':decide (65536<r)=true:=k
  refine Ai ?_
  unfold X5 K9 B6;rw [k1,k2,k'];rfl
 ·have k':decide (65536<r)=false:=k3
  refine Ai ?_
  unfold X5 K9 B6;rw [k1,k2,k'];rfl
abbrev Tu:PureT:=Be [A1] [cI] (fun x=>true) (fun x=>(X5 x.1.1.1 x.1.1.2.1 x.1.2.1,()))
theorem Tv:A7 Tryz.prog 43 Tu:=Bh (Ap Am puOk_nil (fns_cons is_CheckDisc (fns_cons is_fits A3))) 3 (fun x=>Apg x.1.1.1 x.1.1.2.1 x.1.2.1) (fun x=>by kernel_rfl) fun x hok hw=>Aph hw.1.1.1 hw.1.1.2.1
end V
def Api (ax ay bx bY:Int):Tree (TCTs [cI]) :=
 .leaf ((IntKind.i64.wrap (IntKind.i64.wrap (IntKind.i64.wrap (bx-ax)*IntKind.i64.wrap (bx-ax))+IntKind.i64.wrap (IntKind.i64.wrap (bY-ay)*IntKind.i64.wrap (bY-ay)))),())
theorem Apj {ax ay bx bY:Int} (hok:(fpt ax ay&&fpt bx bY)=true):(Api ax ay bx bY).sat (fun y=>y=(sq ax ay bx bY,())):=by
 unfold Api
 rw [Bool.and_eq_true] at hok
 have c1:=G7 hok.1
 have c2:=G7 hok.2
 have b1:=By (a:=bx-ax) (b:=bx-ax) (A:=8388608) (B:=8388608) (by omega) (by omega) (by omega) (by omega)
 have b2:=By (a:=bY-ay) (b:=bY-ay) (A:=8388608) (B:=8388608) (by omega) (by omega) (by omega) (by omega)
 rw [A6 (n:=bx-ax) (by omega) (by omega),A6 (n:=bY-ay) (by omega) (by omega),A6 (n:=(bx-ax)*(bx-ax)) (by omega) (by omega),A6 (n:=(bY-ay)*(bY-ay)) (by omega) (by omega),A6 (n:=(bx-ax)*(bx-ax)+(bY-ay)*(bY-ay)) (by omega) (by omega)]
 refine Ai ?_
 unfold sq;rfl
abbrev X6:PureT:=Be [cPt,cPt] [cI] (fun x=>fpt x.1.1 x.1.2.1&&fpt x.2.1.1 x.2.1.2.1) (fun x=>(sq x.1.1 x.1.2.1 x.2.1.1 x.2.1.2.1,()))
theorem A1f:A7 Tryz.prog 54 X6:=Bh (Ap Am puOk_nil (fns_cons is_square A3)) 2 (fun x=>Api x.1.1 x.1.2.1 x.2.1.1 x.2.1.2.1) (fun x=>by kernel_rfl) fun x hok hw=>Apj hok
def B3n:List (Nat×PureT):=[(54,X6),(118,Aaz),(119,X2),(108,Ix)]
theorem Apk:Ci Tryz.prog B3n:=puOk_cons is_square.plain A1f (puOk_cons is_root.plain Aeq B85)
def SqR (ax ay bx bY:Int):Int×Int:=bif fpt ax ay&&fpt bx bY then (sq ax ay bx bY,0) else (0,2)
namespace V
def Apl (ax ay bx bY:Int):Tree (TCTs [cI,cI]) :=
 bif Sg ax ay then .leaf (0,2,()) else bif Si ax ay then .leaf (0,2,()) else
    bif Sg bx bY then .leaf (0,2,()) else bif Si bx bY then .leaf (0,2,()) else
    bif fpt ax ay&&fpt bx bY then .leaf ((sq ax ay bx bY),0,()) else .fail
theorem Apm {ax ay bx bY:Int} (a1:inK .i64 ax) (a2:inK .i64 ay) (a3:inK .i64 bx) (a4:inK .i64 bY):(Apl ax ay bx bY).sat (fun y=>y=((SqR ax ay bx bY).1,(SqR ax ay bx bY).2,())):=by
 unfold Apl
 refine Hr a1 a2 (fun k=>?_) (fun k1=>Hr a3 a4 (fun k=>?_) (fun k2=>?_))
 ·refine Ai ?_
  unfold SqR;rw [k];rfl
 ·refine Ai ?_
  unfold SqR;rw [k1,k];rfl
 ·rw [k1,k2]
  refine Ai ?_
  unfold SqR;rw [k1,k2];rfl
abbrev Apn:PureT:=Be [cPt,cPt] [cI,cI] (fun x=>true) (fun x=>((SqR x.1.1 x.1.2.1 x.2.1.1 x.2.1.2.1).1,(SqR x.1.1 x.1.2.1 x.2.1.1 x.2.1.2.1).2,()))
theorem A78:A7 Tryz.prog 22 Apn:=Bh (Ap Am Apk (fns_cons is_Square (fns_cons is_fits A3))) 3 (fun x=>Apl x.1.1 x.1.2.1 x.2.1.1 x.2.1.2.1) (fun x=>by kernel_rfl) fun x hok hw=>Apm hw.1.1 hw.1.2.1 hw.2.1.1 hw.2.1.2.1
end V
def ToX (px qx d l:Int):Int:=qx+DW (64*l*(px-qx)) d
def dTo (px py qx qy:Int):Int:=rt (sq px py qx qy*4096)
def TwR (px py qx qy l:Int):(Int×Int)×Int :=
 bif fpt px py&&fpt qx qy then bif B6 l 0 4194304 then ((0,0),3) else bif px==qx&&py==qy then ((0,0),9) else
  bif fpt (ToX px qx (dTo px py qx qy) l) (ToX py qy (dTo px py qx qy) l) then ((ToX px qx (dTo px py qx qy) l,ToX py qy (dTo px py qx qy) l),0) else ((0,0),4)
 else ((0,0),2)
theorem Aer {px py qx qy:Int} (h:fpt px py=true) (k:fpt qx qy=true):0≤sq px py qx qy∧sq px py qx qy≤140737488355328:=by
 have c1:=G7 h
 have c2:=G7 k
 have b1:=By (a:=qx-px) (b:=qx-px) (A:=8388608) (B:=8388608) (by omega) (by omega) (by omega) (by omega)
 have b2:=By (a:=qy-py) (b:=qy-py) (A:=8388608) (B:=8388608) (by omega) (by omega) (by omega) (by omega)
 have b3:=Gu (qx-px)
 have b4:=Gu (qy-py)
 unfold sq;omega
theorem Apo {px py qx qy:Int} (h:fpt px py=true) (k:fpt qx qy=true) (hne:¬ (px=qx∧py=qy)):1≤dTo px py qx qy∧dTo px py qx qy≤576460752303423488:=by
 have h1:=Aer h k
 have h2:=Aow hne
 obtain ⟨r1,r2,r3⟩:=Gt (sq px py qx qy*4096) (by omega)
 unfold dTo
 generalize rt (sq px py qx qy*4096)=d at r1 r2 r3
 have hd:1≤d:=by
  rcases Int.lt_or_le d 1 with x | x
  ·have:d=0:=by omega
   subst this
   omega
  ·exact x
 have:=Int.mul_le_mul_of_nonneg_left hd (show 0≤d by omega)
 omega
namespace V
def B3o (px py qx qy l:Int):Tree (TCTs [cPt,cI]) :=
 let d:=rt (IntKind.i64.wrap (sq px py qx qy*4096))
    let ux:=IntKind.i64.wrap (IntKind.i64.wrap (64*l)*IntKind.i64.wrap (px-qx))
    let uy:=IntKind.i64.wrap (IntKind.i64.wrap (64*l)*IntKind.i64.wrap (py-qy))
    bif Sg px py then .leaf ((0,0,()),2,()) else bif Si px py then .leaf ((0,0,()),2,()) else
    bif Sg qx qy then .leaf ((0,0,()),2,()) else bif Si qx qy then .leaf ((0,0,()),2,()) else
    bif B6 l 0 4194304 then .leaf ((0,0,()),3,()) else
    bif px==qx&&(py==qy&&true) then .leaf ((0,0,()),9,()) else
    bif fpt px py&&fpt qx qy then bif decide (0≤IntKind.i64.wrap (sq px py qx qy*4096)∧IntKind.i64.wrap (sq px py qx qy*4096)≤4611686018427387904) then
    bif K8 ux d then bif K8 uy d then
    bif Sg (IntKind.i64.wrap (qx+DW ux d)) (IntKind.i64.wrap (qy+DW uy d)) then .leaf ((0,0,()),4,()) else bif Si (IntKind.i64.wrap (qx+DW ux d)) (IntKind.i64.wrap (qy+DW uy d)) then .leaf ((0,0,()),4,()) else
     .leaf (((IntKind.i64.wrap (qx+DW ux d)),(IntKind.i64.wrap (qy+DW uy d)),()),0,())
    else .fail else .fail else .fail else .fail
theorem Ax0 {px py qx qy l:Int} (a1:inK .i64 px) (a2:inK .i64 py) (a3:inK .i64 qx) (a4:inK .i64 qy):(B3o px py qx qy l).sat (fun y=>y=(((TwR px py qx qy l).1.1,(TwR px py qx qy l).1.2,()),(TwR px py qx qy l).2,())):=by
 unfold B3o
 dsimp only
 refine Hr a1 a2 (fun k=>?_) (fun k1=>Hr a3 a4 (fun k=>?_) (fun k2=>B2 (fun k=>?_) (fun k3=>B2 (fun k=>?_) (fun k4=>?_))))
 ·refine Ai ?_
  unfold TwR;rw [k];rfl
 ·refine Ai ?_
  unfold TwR;rw [k1,k];rfl
 ·refine Ai ?_
  unfold TwR;rw [k1,k2,k];rfl
 ·refine Ai ?_
  rw [Bool.and_true] at k
  unfold TwR;rw [k1,k2,k3,k];rfl
 ·have c1:=G7 k1
  have c2:=G7 k2
  have c3:=A1e k3
  rw [Bool.and_true] at k4
  have hne:¬ (px=qx∧py=qy):=by
   intro hh;simp [hh.1,hh.2] at k4
  have s1:=Aer k1 k2
  have hd:=Apo k1 k2 hne
  have b1:=By (a:=64*l) (b:=px-qx) (A:=268435456) (B:=8388608) (by omega) (by omega) (by omega) (by omega)
  have b2:=By (a:=64*l) (b:=py-qy) (A:=268435456) (B:=8388608) (by omega) (by omega) (by omega) (by omega)
  rw [A6 (n:=sq px py qx qy*4096) (by omega) (by omega),A6 (n:=64*l) (by omega) (by omega),A6 (n:=px-qx) (by omega) (by omega),A6 (n:=py-qy) (by omega) (by omega),A6 (n:=64*l*(px-qx)) (by omega) (by omega),A6 (n:=64*l*(py-qy)) (by omega) (by omega)]
  have hdd:rt (sq px py qx qy*4096)=dTo px py qx qy:=rfl
  rw [hdd]
  have w1:=Aeg (64*l*(px-qx)) (dTo px py qx qy) 2251799813685248 hd.1 (by omega) (by omega) (by omega)
  have w2:=Aeg (64*l*(py-qy)) (dTo px py qx qy) 2251799813685248 hd.1 (by omega) (by omega) (by omega)
  rw [A6 (n:=qx+DW (64*l*(px-qx)) (dTo px py qx qy)) (by omega) (by omega),A6 (n:=qy+DW (64*l*(py-qy)) (dTo px py qx qy)) (by omega) (by omega)]
  have v1:K8 (64*l*(px-qx)) (dTo px py qx qy)=true:=by unfold K8;exact decide_eq_true (by omega)
  have v2:K8 (64*l*(py-qy)) (dTo px py qx qy)=true:=by unfold K8;exact decide_eq_true (by omega)
  rw [k1,k2,v1,v2]
  have v3:decide (0≤sq px py qx qy*4096∧sq px py qx qy*4096≤4611686018427387904)=true:=decide_eq_true (by omega)
  rw [v3]
  have hT:TwR px py qx qy l=bif fpt (ToX px qx (dTo px py qx qy) l) (ToX py qy (dTo px py qx qy) l) then ((ToX px qx (dTo px py qx qy) l,ToX py qy (dTo px py qx qy) l),0) else ((0,0),4):=by
   unfold TwR;rw [k1,k2,k3,k4];rfl
  rw [hT]
  simp only [cond_true,Bool.and_self]
  refine Hr ?_ ?_ (fun k=>?_) (fun k=>?_)
  ·simp only [inK,I0,B0];omega
  ·simp only [inK,I0,B0];omega
  ·have k':fpt (ToX px qx (dTo px py qx qy) l) (ToX py qy (dTo px py qx qy) l)=false:=k
   rw [k'];exact Ai rfl
  ·have k':fpt (ToX px qx (dTo px py qx qy) l) (ToX py qy (dTo px py qx qy) l)=true:=k
   rw [k'];exact Ai rfl
abbrev Ab3:PureT:=Be [cPt,cPt,cI] [cPt,cI] (fun x=>true) (fun x=>(((TwR x.1.1 x.1.2.1 x.2.1.1 x.2.1.2.1 x.2.2.1).1.1,(TwR x.1.1 x.1.2.1 x.2.1.1 x.2.1.2.1 x.2.2.1).1.2,()),(TwR x.1.1 x.1.2.1 x.2.1.1 x.2.1.2.1 x.2.2.1).2,()))
theorem Ab4:A7 Tryz.prog 59 Ab3:=Bh (Ap Am Apk (fns_cons is_Towards (fns_cons is_fits A3))) 3 (fun x=>B3o x.1.1 x.1.2.1 x.2.1.1 x.2.1.2.1 x.2.2.1) (fun x=>by kernel_rfl) fun x hok hw=>Ax0 hw.1.1 hw.1.2.1 hw.2.1.1 hw.2.1.2.1
end V
def B3p (a b c:Int):Tree (TCTs [.b]) :=
 bif decide (a≥b) then .leaf ((decide (a≤c)),()) else .leaf (false,())
theorem Ax1 {a b c:Int}:(B3p a b c).sat (fun y=>y=(!B6 a b c,())):=by
 unfold B3p
 refine B2 (fun h1=>?_) (fun h1=>?_)
 ·have h2:=of_decide_eq_true h1
  refine Ai ?_
  congr 1
  unfold B6
  rw [Bool.eq_iff_iff]
  simp only [decide_eq_true_eq,Bool.not_eq_true',Bool.or_eq_false_iff,decide_eq_false_iff_not]
  omega
 ·have h2:=of_decide_eq_false h1
  refine Ai ?_
  congr 1
  have:B6 a b c=true:=by unfold B6;simp;omega
  rw [this];rfl
abbrev Aes:PureT:=Be [cI,cI,cI] [.b] (fun x=>true) (fun x=>(!B6 x.1 x.2.1 x.2.2.1,()))
theorem Ax2 (x y:Int):fpt x y=(!B6 x (-4194304) 4194304&&!B6 y (-4194304) 4194304):=by
 unfold fpt B6
 rw [Bool.eq_iff_iff]
 simp only [decide_eq_true_eq,Bool.and_eq_true,Bool.not_eq_true',Bool.or_eq_false_iff,decide_eq_false_iff_not]
 omega
namespace V
def B3t (x y:Int):Tree (TCTs [.b]) :=
 bif !B6 x (-4194304) 4194304 then .leaf ((!B6 y (-4194304) 4194304),()) else .leaf (false,())
theorem Ax3 {x y:Int}:(B3t x y).sat (fun z=>z=(fpt x y,())):=by
 unfold B3t
 rw [Ax2]
 refine B2 (fun h1=>?_) (fun h1=>?_) <;> (refine Ai ?_;rw [h1];rfl)
abbrev Aet:PureT:=Be [cPt] [.b] (fun x=>true) (fun x=>(fpt x.1.1 x.1.2.1,()))
end V
namespace V
end V
namespace V
end V
end Go.Proofs.YtlangijnealfjaaGreat
