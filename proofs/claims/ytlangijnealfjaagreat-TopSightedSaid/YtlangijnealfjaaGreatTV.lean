import Derived.Test.YtlangijnealfjaaGreatZe
import Derived.Test.YtlangijnealfjaaGreatMA
import Derived.Test.YtlangijnealfjaaGreatRows
namespace Go.Proofs.YtlangijnealfjaaGreat
open Go.RowKit V
theorem is_outside:FnIs Tryz.prog (108,Tryz.f108):=⟨Tryz.func108,by kernel_rfl,by kernel_rfl⟩
theorem is_divide:FnIs Tryz.prog (119,Tryz.f119):=⟨Tryz.func119,by kernel_rfl,by kernel_rfl⟩
theorem is_root:FnIs Tryz.prog (118,Tryz.f118):=⟨Tryz.func118,by kernel_rfl,by kernel_rfl⟩
theorem is_Len64:FnIs Tryz.prog (188,Tryz.f188):=⟨Tryz.func188,by kernel_rfl,by kernel_rfl⟩
theorem is_fits:FnIs Tryz.prog (45,Tryz.f45):=⟨Tryz.func45,by kernel_rfl,by kernel_rfl⟩
theorem is_CheckDisc:FnIs Tryz.prog (43,Tryz.f43):=⟨Tryz.func43,by kernel_rfl,by kernel_rfl⟩
theorem is_square:FnIs Tryz.prog (54,Tryz.f54):=⟨Tryz.func54,by kernel_rfl,by kernel_rfl⟩
theorem is_Towards:FnIs Tryz.prog (59,Tryz.f59):=⟨Tryz.func59,by kernel_rfl,by kernel_rfl⟩
theorem Gq:FnIs Tryz.prog (70,Tryz.f70):=⟨Tryz.func70,by kernel_rfl,by kernel_rfl⟩
namespace V
abbrev cPt:TC:=.st [.i .i64,.i .i64]
abbrev A1:TC:=.st [cPt,.i .i64]
end V
abbrev I0:PureT:=B9 [cI,cI,cI] [.b] (fun _=>true) (fun x=>(B7 x.1 x.2.1 x.2.2.1,()))
theorem A9r {a b c:Int}:(bif decide (a<b) then .leaf (true,()) else .leaf (decide (a>c),()):Tree (TCTs [.b])).sat (fun y=>y=(B7 a b c,())):=by
 refine Ax (fun h1=>?_) (fun h1=>?_) <;> (refine A6 ?_;unfold B7;rw [h1];rfl)
theorem Rt:A5 Tryz.prog 108 I0:=Bb (Aj Ak puOk_nil (A0 is_outside A2)) 2 (fun x=>bif decide (x.1<x.2.1) then .leaf (true,()) else .leaf (decide (x.1>x.2.2.1),())) (fun x=>by kernel_rfl) fun _ _ _=>A9r
theorem Au8:Ca Tryz.prog [(108,I0)]:=puOk_cons is_outside.plain Rt puOk_nil
def Ru (n d:Int):Tree (TCTs [.st [cI,cI]]) :=
 bif d != 0 then bif d != 0 then
      bif decide (IntKind.i64.wrap (2*n.tmod d)≥d) then .leaf (((IntKind.i64.wrap (IntKind.i64.wrap (n.tdiv d)+1)),(IntKind.i64.wrap (n.tmod d-d)),()),())
      else bif decide (IntKind.i64.wrap (2*n.tmod d)<IntKind.i64.wrap (0-d)) then .leaf (((IntKind.i64.wrap (IntKind.i64.wrap (n.tdiv d)-1)),(IntKind.i64.wrap (n.tmod d+d)),()),())
      else .leaf (((IntKind.i64.wrap (n.tdiv d)),(n.tmod d),()),())
     else .fail else .fail
theorem A0y {n d:Int} (hok:Y7 n d=true):(Ru n d).sat (fun y=>y=((DW n d,DR n d,()),())):=by
 unfold Ru
 unfold Y7 at hok
 obtain ⟨h1,h2,h3,h4⟩:=of_decide_eq_true hok
 have hd:(d != 0)=true:=by simp;omega
 have ⟨k1,k2⟩:=A77 n d h3
 have ⟨k3,k4⟩:=Arm n d 1152921504606846976 h3 h1 h2
 rw [A8 (n:=2*n.tmod d) (by omega) (by omega),A8 (n:=n.tdiv d) (by omega) (by omega),A8 (n:=n.tdiv d+1) (by omega) (by omega),A8 (n:=n.tdiv d-1) (by omega) (by omega),
  A8 (n:=n.tmod d-d) (by omega) (by omega),A8 (n:=n.tmod d+d) (by omega) (by omega),A8 (n:=0-d) (by omega) (by omega),hd]
 refine Ax (fun _=>Ax (fun _=>Ax (fun h5=>?_) (fun h5=>Ax (fun h6=>?_) (fun h6=>?_))) (fun h=>by simp at h)) (fun h=>by simp at h)
 ·obtain ⟨e1,e2⟩:=Arn n d h3 (of_decide_eq_true h5)
  refine A6 ?_
  rw [e1,e2]
 ·obtain ⟨e1,e2⟩:=Aro n d h3 (by have:=of_decide_eq_true h6;omega)
  refine A6 ?_
  rw [e1,e2]
 ·obtain ⟨e1,e2⟩:=Ao9 n d h3 (by have:=of_decide_eq_false h5;omega) (by have:=of_decide_eq_false h6;omega)
  refine A6 ?_
  rw [e1,e2]
abbrev Rv:PureT:=B9 [cI,cI] [.st [cI,cI]] (fun x=>Y7 x.1 x.2.1) (fun x=>((DW x.1 x.2.1,DR x.1 x.2.1,()),()))
theorem A9s:A5 Tryz.prog 119 Rv:=Bb (Aj Ak puOk_nil (A0 is_divide A2)) 2 (fun x=>Ru x.1 x.2.1) (fun x=>by kernel_rfl) fun x hok hw=>A0y hok
theorem Au9:Ca Tryz.prog [(119,Rv),(108,I0)]:=puOk_cons is_divide.plain A9s Au8
namespace V
end V
def tbB:ByteArray:=⟨((List.range 256).map fun i=>UInt8.ofNat (if i=0 then 0 else Nat.log2 i+1)).toArray⟩
def Aju (i:Nat):Int:=((tbB.data.toList.getD i 0).toNat:Int)
theorem Ajv:∀ i,i<256→(tbB.data.toList.getD i 0).toNat=bl i:=by decide +kernel
theorem Aeu (i:Nat) (h:i<256):Aju i=bl i:=by unfold Aju;rw [Ajv i h]
attribute [irreducible] Aju tbB
def Aev (n k:Int):Int:=n.fdiv (2 ^ min (Int.toNat k) IntKind.u64.bits)
def Ajw (m s:Int):Tree (TCTs [cI]):=bif decide (0≤IntKind.u8.wrap m∧IntKind.u8.wrap m<256) then .leaf (IntKind.i64.wrap (s+IntKind.i64.wrap (Aju (IntKind.u8.wrap m).toNat)),()) else .fail
def Ajx (m s:Int):Tree (TCTs [cI]):=bif decide (m≥256) then Ajw (Aev m 8) (IntKind.i64.wrap (s+8)) else Ajw m s
def Y9 (m s:Int):Tree (TCTs [cI]):=bif decide (m≥65536) then Ajx (Aev m 16) (IntKind.i64.wrap (s+16)) else Ajx m s
def Aoc (n:Int):Tree (TCTs [cI]):=bif decide (n≥4294967296) then Y9 (Aev n 32) 32 else Y9 n 0
section
attribute [local irreducible] Tree.sat
theorem Rw (n k:Nat) (hk:k≤64):Aev (n:Int) (k:Int)=((n / 2 ^ k:Nat):Int):=by
 unfold Aev
 have:min (Int.toNat (k:Int)) IntKind.u64.bits=k:=by simp [IntKind.bits];omega
 rw [this,Int.fdiv_eq_ediv_of_nonneg _ (by exact Int.le_of_lt (Int.pow_pos (by decide)))]
 simp
theorem A9t (m:Nat) (h:m<256):IntKind.u8.wrap (m:Int)=m:=by
 unfold IntKind.wrap;simp [IntKind.bits,IntKind.signed];omega
theorem A79 {R:TCTs [cI]→Prop} (m s:Nat) (hm:m<256) (hs:s≤56) (h:R (((s+bl m:Nat):Int),())):(Ajw (m:Int) (s:Int)).sat R:=by
 unfold Ajw
 rw [A9t m hm]
 have hb:bl m≤8:=Rs m 8 (by omega)
 refine Ax (fun _=>?_) (fun h=>?_)
 ·rw [Int.toNat_natCast,Aeu m hm,A8 (n:=(bl m:Int)) (by omega) (by omega),A8 (n:=(s:Int)+(bl m:Int)) (by omega) (by omega)]
  refine A6 ?_
  rw [← Int.natCast_add];exact h
 ·have:=of_decide_eq_false h;omega
theorem A7a {R:TCTs [cI]→Prop} (m s:Nat) (hm:m<65536) (hs:s≤48) (h:R (((s+bl m:Nat):Int),())):(Ajx (m:Int) (s:Int)).sat R:=by
 unfold Ajx
 refine Ax (fun h1=>?_) (fun h1=>?_)
 ·have h2:=of_decide_eq_true h1
  rw [A8 (n:=(s:Int)+8) (by omega) (by omega)]
  have e1:=Rw m 8 (by omega)
  simp only [Int.cast_ofNat_Int] at e1
  rw [e1]
  have e2:(s:Int)+8=((s+8:Nat):Int):=by simp
  rw [e2]
  refine A79 (m / 2 ^ 8) (s+8) (by omega) (by omega) ?_
  have:=A4k m 8 (by omega)
  rwa [show s+8+bl (m / 2 ^ 8)=s+bl m by omega]
 ·have h2:=of_decide_eq_false h1
  exact A79 m s (by omega) (by omega) h
theorem A7b {R:TCTs [cI]→Prop} (m s:Nat) (hm:m<4294967296) (hs:s≤32) (h:R (((s+bl m:Nat):Int),())):(Y9 (m:Int) (s:Int)).sat R:=by
 unfold Y9
 refine Ax (fun h1=>?_) (fun h1=>?_)
 ·have h2:=of_decide_eq_true h1
  rw [A8 (n:=(s:Int)+16) (by omega) (by omega)]
  have e1:=Rw m 16 (by omega)
  simp only [Int.cast_ofNat_Int] at e1
  rw [e1]
  have e2:(s:Int)+16=((s+16:Nat):Int):=by simp
  rw [e2]
  refine A7a (m / 2 ^ 16) (s+16) (by omega) (by omega) ?_
  have:=A4k m 16 (by omega)
  rwa [show s+16+bl (m / 2 ^ 16)=s+bl m by omega]
 ·have h2:=of_decide_eq_false h1
  exact A7a m s (by omega) (by omega) h
theorem Ajy {R:TCTs [cI]→Prop} (n:Int) (h0:0≤n) (h1:n≤18446744073709551615) (h:R ((bl n.toNat:Int),())):(Aoc n).sat R:=by
 obtain ⟨m,rfl⟩:=Int.eq_ofNat_of_zero_le h0
 rw [Int.toNat_natCast] at h
 unfold Aoc
 refine Ax (fun h1=>?_) (fun h1=>?_)
 ·have h2:=of_decide_eq_true h1
  have e1:=Rw m 32 (by omega)
  simp only [Int.cast_ofNat_Int] at e1
  rw [e1]
  refine A7b (m / 2 ^ 32) 32 (by omega) (by omega) ?_
  have:=A4k m 32 (by omega)
  rwa [show 32+bl (m / 2 ^ 32)=bl m by omega]
 ·have h2:=of_decide_eq_false h1
  exact A7b m 0 (by omega) (by omega) (by rwa [Nat.zero_add])
end
abbrev Ya:PureT:=B9 [.i .u64] [cI] (fun _=>true) (fun x=>((bl x.1.toNat:Int),()))
theorem Aew:A5 Tryz.prog 188 Ya:=Bb (Aj Ak puOk_nil (A0 is_Len64 A2)) 2 (fun x=>Aoc x.1) (fun x=>by kernel_rfl) fun x _ hw=>Ajy x.1 hw.1.1 hw.1.2 rfl
theorem A9u:Ca Tryz.prog [(188,Ya)]:=puOk_cons is_Len64.plain Aew puOk_nil
noncomputable def A7c:Code:=(Ai (bodyOf Tryz.f118)).getD 0 .skip
def Js:Lay:={ keys:=[0,3],ks:=[.d cI,.d cI],bs:=[],n:=25,nx:=1000,marks:=[] }
def Ajz:Lay:={ keys:=[2],ks:=[.d cI],bs:=[],n:=25,nx:=1000,marks:=[] }
def Lv:XE→Lay:=fun _=>Ajz
def Ks (n x:Int):Js.T:=((n,x,()),())
def Yb (r:Int):A4 Lv:=⟨.ret,((r,()),())⟩
def Ql (n x:Int):Int:=IntKind.i64.wrap ((IntKind.i64.wrap (x+IntKind.i64.wrap (n.tdiv x))).tdiv 2)
def Rx (n x:Int):Tree (Js.T⊕A4 Lv):=bif x != 0 then bif decide (Ql n x≥x) then .leaf (.inr (Yb x)) else .leaf (.inl (Ks n (Ql n x))) else .fail
def Kt (g:Js.T):Tree (Js.T⊕A4 Lv):=Rx g.1.1 g.1.2.1
def Yc (g:Js.T):Nat:=Int.toNat g.1.2.1+1
theorem Aod:As Tryz.prog 118 A7c (Aq Js Lv (Da [.ret] Kt Yc)):=C0 (Aj Ak puOk_nil A2) 1 _ Js Lv (fun _=>Nat.le_refl _) [.ret] Kt Yc (fun g=>by kernel_rfl)
theorem A7d {n:Int} (h1:2≤n) (h2:n≤4611686018427387904):∀ (k:Nat) (x:Int),1≤x→x≤4294967296→rt n≤x→x.toNat≤k→iter Kt (k+1) (Ks n x)=some (Yb (rt n))
 | 0,x,h3,_,_,hk=>by omega
 | k+1,x,h3,h4,h5,hk=>by
  have hq:=Int.ediv_nonneg (show 0≤n by omega) (show 0≤x by omega)
  have hq2:=Int.ediv_le_self x (show 0≤n by omega)
  have e1:Ql n x=(x+n / x) / 2:=by
   unfold Ql
   rw [Int.tdiv_eq_ediv_of_nonneg (show 0≤n by omega),A8 (n:=n / x) (by omega) (by omega),A8 (n:=x+n / x) (by omega) (by omega),Int.tdiv_eq_ediv_of_nonneg (by omega),A8 (by omega) (by omega)]
  have hge:=A9p n x (by omega) h3
  have hx0:(x != 0)=true:=by simp;omega
  have hs:Kt (Ks n x)=bif decide ((x+n / x) / 2≥x) then .leaf (.inr (Yb x)) else .leaf (.inl (Ks n ((x+n / x) / 2))):=by
   show Rx n x=_
   unfold Rx
   rw [hx0,e1]
   rfl
  cases hd:decide ((x+n / x) / 2≥x) with
  | true =>
   have h7:=of_decide_eq_true hd
   have hx:=A4l n x (by omega) h3 h5 (by omega)
   rw [← hx]
   exact Ib (by rw [hs,hd];rfl)
  | false =>
   have h7:=of_decide_eq_false hd
   have hr:=(Im n (by omega)).1
   have hpos:1≤(x+n / x) / 2:=by
    have:1≤rt n:=by
     have hc:=(Im n (by omega)).2.2
     rcases Int.lt_or_le (rt n) 1 with k | k
     ·have:rt n=0:=by omega
      rw [this] at hc;omega
     ·exact k
    omega
   rw [Qw (g':=Ks n ((x+n / x) / 2)) (by rw [hs,hd];rfl)]
   exact A7d h1 h2 k _ hpos (by omega) hge (by omega)
theorem Aex (n:Int) (h0:0≤n) (h:n<2):rt n=n:=A9o n n h0 (by rcases (show n=0∨n=1 by omega) with rfl | rfl <;> decide) (by rcases (show n=0∨n=1 by omega) with rfl | rfl <;> decide)
abbrev Aey:PureT:=B9 [cI] [cI] (fun x=>decide (0≤x.1∧x.1≤4611686018427387904)) (fun x=>(rt x.1,()))
noncomputable def Aoe:Ctx:=Fu Tryz.prog [(188,Ya)] [(118,Tryz.f118)] [((118,V.keyOf A7c),Aq Js Lv (Da [.ret] Kt Yc))]
theorem A9v:CtxOk Aoe:=Bt Ak A9u (A0 is_root A2) (Bs rfl (by kernel_rfl) Aod)
def Yd (n:Int):Int:=IntKind.i64.wrap (1*2 ^ min (IntKind.i64.wrap ((IntKind.i64.wrap ((bl (IntKind.u64.wrap n).toNat:Int)+1)).tdiv 2)).toNat IntKind.i64.bits)
def A4m (n:Int):Option (A4 Lv):=iter Kt (Int.toNat (Yd n)+1) (Ks n (Yd n))
def A4n (n:Int):Tree (TCTs [cI]):=bif decide (n<2) then .leaf (n,()) else bif decide (0≤IntKind.i64.wrap ((IntKind.i64.wrap ((bl (IntKind.u64.wrap n).toNat:Int)+1)).tdiv 2)) then bif isE .ret (A4m n) then .leaf ((Dd .ret (A4m n)).1.1,()) else .fail else .fail
theorem A9w {n:Int} (h0:0≤n) (h1:n≤4611686018427387904):(A4n n).sat (fun y=>y=(rt n,())):=by
 unfold A4n A4m Yd
 have hwr:IntKind.u64.wrap n=n:=by unfold IntKind.wrap;simp [IntKind.bits,IntKind.signed];omega
 have hb:bl n.toNat≤63:=Rs _ 63 (by omega)
 rw [hwr,A8 (n:=(bl n.toNat:Int)+1) (by omega) (by omega),Int.tdiv_eq_ediv_of_nonneg (by omega),A8 (n:=((bl n.toNat:Int)+1) / 2) (by omega) (by omega)]
 refine Ax (fun h2=>?_) (fun h2=>Ax (fun h3=>?_) (fun h3=>?_))
 ·have:=of_decide_eq_true h2
  refine A6 ?_
  rw [Aex n h0 this]
 ·have h5:=of_decide_eq_false h2
  have e2:min (((bl n.toNat:Int)+1) / 2).toNat IntKind.i64.bits=(bl n.toNat+1) / 2:=by simp [IntKind.bits];omega
  rw [e2,Int.one_mul]
  have hs:=Y8 n h0
  have hk:(bl n.toNat+1) / 2≤32:=by omega
  have hp1:(1:Int)≤2 ^ ((bl n.toNat+1) / 2):=Int.pow_pos (by decide)
  have hp2:(2:Int) ^ ((bl n.toNat+1) / 2)≤4294967296:=by
   have:2 ^ ((bl n.toNat+1) / 2)≤2 ^ 32:=Nat.pow_le_pow_right (by decide) hk
   have h6:((2 ^ ((bl n.toNat+1) / 2):Nat):Int)≤((2 ^ 32:Nat):Int):=by exact_mod_cast this
   rw [Int.natCast_pow] at h6
   simpa using h6
  generalize (2:Int) ^ ((bl n.toNat+1) / 2)=y at hs hp1 hp2
  rw [A8 (by omega) (by omega)]
  have hr:=Arp n y h0 (by omega) hs
  rw [A7d (by omega) h1 y.toNat y hp1 hp2 hr (Nat.le_refl _)]
  exact A6 rfl
 ·have:=of_decide_eq_false h3;omega
theorem Ak0:A5 Tryz.prog 118 Aey:=Bb A9v 3 (fun x=>A4n x.1) (fun x=>by kernel_rfl) fun x hok _=>A9w (of_decide_eq_true hok).1 (of_decide_eq_true hok).2
namespace V
end V
theorem Vy {x lo hi:Int} (h:B7 x lo hi=false):lo≤x∧x≤hi:=by
 unfold B7 at h
 simp only [Bool.or_eq_false_iff,decide_eq_false_iff_not] at h
 omega
def Ry (x y:Int):Bool:=decide (max (max (max x (IntKind.i64.wrap (0-x))) y) (IntKind.i64.wrap (0-y))>4194304)
def Rz (x y:Int):Bool:=decide (min x y < -4194304)
def fpt (x y:Int):Bool:=decide (-4194304≤x∧x≤4194304 ∧ -4194304≤y∧y≤4194304)
theorem A0z (x:Int) (h1 : -9223372036854775808≤x) (h2:x≤9223372036854775807):IntKind.i64.wrap (0-x)=if x = -9223372036854775808 then x else -x:=by
 split
 ·rename_i h;subst h;rfl
 ·rw [A8 (by omega) (by omega)];omega
theorem Aez {x y:Int} (hx:inK .i64 x) (hy:inK .i64 y) (h:Ry x y=true):fpt x y=false:=by
 simp only [inK,Fz,Au] at hx hy
 unfold Ry at h;unfold fpt
 have h1:=of_decide_eq_true h
 rw [A0z x (by omega) (by omega),A0z y (by omega) (by omega)] at h1
 refine decide_eq_false ?_
 split at h1 <;> split at h1 <;> omega
theorem Af0 {x y:Int} (h:Rz x y=true):fpt x y=false:=by
 unfold Rz at h;unfold fpt
 have h1:=of_decide_eq_true h
 refine decide_eq_false ?_
 omega
theorem Aof {x y:Int} (h:Ry x y=false) (k:Rz x y=false):fpt x y=true:=by
 unfold Ry at h;unfold Rz at k;unfold fpt
 have h1:=of_decide_eq_false h
 have k1:=of_decide_eq_false k
 refine decide_eq_true ?_
 omega
theorem Fw {x y:Int} (h:fpt x y=true) : -4194304≤x∧x≤4194304 ∧ -4194304≤y∧y≤4194304:=of_decide_eq_true h
theorem Fa {α:Type} {R:α→Prop} {x y:Int} {t u:Tree α} (hx:inK .i64 x) (hy:inK .i64 y) (h1:fpt x y=false→t.sat R) (h2:fpt x y=true→u.sat R):(bif Ry x y then t else bif Rz x y then t else u).sat R :=
 Ax (fun h=>h1 (Aez hx hy h)) (fun h=>Ax (fun k=>h1 (Af0 k)) (fun k=>h2 (Aof h k)))
def u_ck (x y:Int):Int:=bif fpt x y then 0 else 2
def Gr (x y r:Int):Bool:=fpt x y&&!B7 r 1 65536
def Jt (x y r:Int):Int:=bif Gr x y r then 0 else 2
namespace V
def Af1 (ax ay:Int):Tree (TCTs [cI]) :=
 bif Ry ax ay then .leaf (2,()) else bif Rz ax ay then .leaf (2,()) else .leaf (0,())
theorem Af2 {ax ay:Int} (a1:inK .i64 ax) (a2:inK .i64 ay):(Af1 ax ay).sat (fun y=>y=(u_ck ax ay,())):=by
 unfold Af1
 refine Fa a1 a2 (fun k=>?_) (fun k=>?_) <;> (refine A6 ?_;unfold u_ck;rw [k];rfl)
abbrev My:PureT:=B9 [cPt] [cI] (fun x=>true) (fun x=>(u_ck x.1.1 x.1.2.1,()))
theorem Mz:A5 Tryz.prog 70 My:=Bb (Aj Ak puOk_nil (A0 Gq (A0 is_fits A2))) 3 (fun x=>Af1 x.1.1 x.1.2.1) (fun x=>by kernel_rfl) fun x hok hw=>Af2 hw.1.1 hw.1.2.1
def Af3 (px py r:Int):Tree (TCTs [cI]) :=
 bif Ry px py then .leaf (2,()) else bif Rz px py then .leaf (2,()) else
    bif decide (r<1) then .leaf (2,()) else bif decide (r>65536) then .leaf (2,()) else .leaf (0,())
theorem Af4 {px py r:Int} (a1:inK .i64 px) (a2:inK .i64 py):(Af3 px py r).sat (fun y=>y=(Jt px py r,())):=by
 unfold Af3
 refine Fa a1 a2 (fun k=>?_) (fun k1=>Ax (fun k=>?_) (fun k2=>Ax (fun k=>?_) (fun k3=>?_)))
 ·refine A6 ?_
  unfold Jt Gr;rw [k];rfl
 ·refine A6 ?_
  unfold Jt Gr B7;rw [k1,k];rfl
 ·have k':decide (65536<r)=true:=k
  refine A6 ?_
  unfold Jt Gr B7;rw [k1,k2,k'];rfl
 ·have k':decide (65536<r)=false:=k3
  refine A6 ?_
  unfold Jt Gr B7;rw [k1,k2,k'];rfl
abbrev Ju:PureT:=B9 [A1] [cI] (fun x=>true) (fun x=>(Jt x.1.1.1 x.1.1.2.1 x.1.2.1,()))
theorem Jv:A5 Tryz.prog 43 Ju:=Bb (Aj Ak puOk_nil (A0 is_CheckDisc (A0 is_fits A2))) 3 (fun x=>Af3 x.1.1.1 x.1.1.2.1 x.1.2.1) (fun x=>by kernel_rfl) fun x hok hw=>Af4 hw.1.1.1 hw.1.1.2.1
end V
def Af5 (ax ay bx bY:Int):Tree (TCTs [cI]) :=
 .leaf ((IntKind.i64.wrap (IntKind.i64.wrap (IntKind.i64.wrap (bx-ax)*IntKind.i64.wrap (bx-ax))+IntKind.i64.wrap (IntKind.i64.wrap (bY-ay)*IntKind.i64.wrap (bY-ay)))),())
theorem Af6 {ax ay bx bY:Int} (hok:(fpt ax ay&&fpt bx bY)=true):(Af5 ax ay bx bY).sat (fun y=>y=(sq ax ay bx bY,())):=by
 unfold Af5
 rw [Bool.and_eq_true] at hok
 have c1:=Fw hok.1
 have c2:=Fw hok.2
 have b1:=D4 (a:=bx-ax) (b:=bx-ax) (A:=8388608) (B:=8388608) (by omega) (by omega) (by omega) (by omega)
 have b2:=D4 (a:=bY-ay) (b:=bY-ay) (A:=8388608) (B:=8388608) (by omega) (by omega) (by omega) (by omega)
 rw [A8 (n:=bx-ax) (by omega) (by omega),A8 (n:=bY-ay) (by omega) (by omega),A8 (n:=(bx-ax)*(bx-ax)) (by omega) (by omega),A8 (n:=(bY-ay)*(bY-ay)) (by omega) (by omega),A8 (n:=(bx-ax)*(bx-ax)+(bY-ay)*(bY-ay)) (by omega) (by omega)]
 refine A6 ?_
 unfold sq;rfl
abbrev S0:PureT:=B9 [cPt,cPt] [cI] (fun x=>fpt x.1.1 x.1.2.1&&fpt x.2.1.1 x.2.1.2.1) (fun x=>(sq x.1.1 x.1.2.1 x.2.1.1 x.2.1.2.1,()))
theorem Vz:A5 Tryz.prog 54 S0:=Bb (Aj Ak puOk_nil (A0 is_square A2)) 2 (fun x=>Af5 x.1.1 x.1.2.1 x.2.1.1 x.2.1.2.1) (fun x=>by kernel_rfl) fun x hok hw=>Af6 hok
def Aog:List (Nat×PureT):=[(54,S0),(118,Aey),(119,Rv),(108,I0)]
theorem Aoh:Ca Tryz.prog Aog:=puOk_cons is_square.plain Vz (puOk_cons is_root.plain Ak0 Au9)
namespace V
end V
def ToX (px qx d l:Int):Int:=qx+DW (64*l*(px-qx)) d
def dTo (px py qx qy:Int):Int:=rt (sq px py qx qy*4096)
def TwR (px py qx qy l:Int):(Int×Int)×Int :=
 bif fpt px py&&fpt qx qy then bif B7 l 0 4194304 then ((0,0),3) else bif px==qx&&py==qy then ((0,0),9) else
  bif fpt (ToX px qx (dTo px py qx qy) l) (ToX py qy (dTo px py qx qy) l) then ((ToX px qx (dTo px py qx qy) l,ToX py qy (dTo px py qx qy) l),0) else ((0,0),4)
 else ((0,0),2)
theorem Af7 {px py qx qy:Int} (h:fpt px py=true) (k:fpt qx qy=true):0≤sq px py qx qy∧sq px py qx qy≤140737488355328:=by
 have c1:=Fw h
 have c2:=Fw k
 have b1:=D4 (a:=qx-px) (b:=qx-px) (A:=8388608) (B:=8388608) (by omega) (by omega) (by omega) (by omega)
 have b2:=D4 (a:=qy-py) (b:=qy-py) (A:=8388608) (B:=8388608) (by omega) (by omega) (by omega) (by omega)
 have b3:=Io (qx-px)
 have b4:=Io (qy-py)
 unfold sq;omega
theorem Aoi {px py qx qy:Int} (h:fpt px py=true) (k:fpt qx qy=true) (hne:¬ (px=qx∧py=qy)):1≤dTo px py qx qy∧dTo px py qx qy≤576460752303423488:=by
 have h1:=Af7 h k
 have h2:=Aoa hne
 obtain ⟨r1,r2,r3⟩:=Im (sq px py qx qy*4096) (by omega)
 unfold dTo
 generalize rt (sq px py qx qy*4096)=d at r1 r2 r3
 have hd:1≤d:=by
  rcases Int.lt_or_le d 1 with x | x
  ·have:d=0:=by omega
   subst this
   omega
  ·exact x
 have:=Int.mul_le_mul_of_nonneg_left hd (show 0≤d by omega)
 omega
namespace V
def Aoj (px py qx qy l:Int):Tree (TCTs [cPt,cI]) :=
 let d:=rt (IntKind.i64.wrap (sq px py qx qy*4096))
    let ux:=IntKind.i64.wrap (IntKind.i64.wrap (64*l)*IntKind.i64.wrap (px-qx))
    let uy:=IntKind.i64.wrap (IntKind.i64.wrap (64*l)*IntKind.i64.wrap (py-qy))
    bif Ry px py then .leaf ((0,0,()),2,()) else bif Rz px py then .leaf ((0,0,()),2,()) else
    bif Ry qx qy then .leaf ((0,0,()),2,()) else bif Rz qx qy then .leaf ((0,0,()),2,()) else
    bif B7 l 0 4194304 then .leaf ((0,0,()),3,()) else
    bif px==qx&&(py==qy&&true) then .leaf ((0,0,()),9,()) else
    bif fpt px py&&fpt qx qy then bif decide (0≤IntKind.i64.wrap (sq px py qx qy*4096)∧IntKind.i64.wrap (sq px py qx qy*4096)≤4611686018427387904) then
    bif Y7 ux d then bif Y7 uy d then
    bif Ry (IntKind.i64.wrap (qx+DW ux d)) (IntKind.i64.wrap (qy+DW uy d)) then .leaf ((0,0,()),4,()) else bif Rz (IntKind.i64.wrap (qx+DW ux d)) (IntKind.i64.wrap (qy+DW uy d)) then .leaf ((0,0,()),4,()) else
     .leaf (((IntKind.i64.wrap (qx+DW ux d)),(IntKind.i64.wrap (qy+DW uy d)),()),0,())
    else .fail else .fail else .fail else .fail
theorem Ak1 {px py qx qy l:Int} (a1:inK .i64 px) (a2:inK .i64 py) (a3:inK .i64 qx) (a4:inK .i64 qy):(Aoj px py qx qy l).sat (fun y=>y=(((TwR px py qx qy l).1.1,(TwR px py qx qy l).1.2,()),(TwR px py qx qy l).2,())):=by
 unfold Aoj
 dsimp only
 refine Fa a1 a2 (fun k=>?_) (fun k1=>Fa a3 a4 (fun k=>?_) (fun k2=>Ax (fun k=>?_) (fun k3=>Ax (fun k=>?_) (fun k4=>?_))))
 ·refine A6 ?_
  unfold TwR;rw [k];rfl
 ·refine A6 ?_
  unfold TwR;rw [k1,k];rfl
 ·refine A6 ?_
  unfold TwR;rw [k1,k2,k];rfl
 ·refine A6 ?_
  rw [Bool.and_true] at k
  unfold TwR;rw [k1,k2,k3,k];rfl
 ·have c1:=Fw k1
  have c2:=Fw k2
  have c3:=Vy k3
  rw [Bool.and_true] at k4
  have hne:¬ (px=qx∧py=qy):=by
   intro hh;simp [hh.1,hh.2] at k4
  have s1:=Af7 k1 k2
  have hd:=Aoi k1 k2 hne
  have b1:=D4 (a:=64*l) (b:=px-qx) (A:=268435456) (B:=8388608) (by omega) (by omega) (by omega) (by omega)
  have b2:=D4 (a:=64*l) (b:=py-qy) (A:=268435456) (B:=8388608) (by omega) (by omega) (by omega) (by omega)
  rw [A8 (n:=sq px py qx qy*4096) (by omega) (by omega),A8 (n:=64*l) (by omega) (by omega),A8 (n:=px-qx) (by omega) (by omega),A8 (n:=py-qy) (by omega) (by omega),A8 (n:=64*l*(px-qx)) (by omega) (by omega),A8 (n:=64*l*(py-qy)) (by omega) (by omega)]
  have hdd:rt (sq px py qx qy*4096)=dTo px py qx qy:=rfl
  rw [hdd]
  have w1:=Amg (64*l*(px-qx)) (dTo px py qx qy) 2251799813685248 hd.1 (by omega) (by omega) (by omega)
  have w2:=Amg (64*l*(py-qy)) (dTo px py qx qy) 2251799813685248 hd.1 (by omega) (by omega) (by omega)
  rw [A8 (n:=qx+DW (64*l*(px-qx)) (dTo px py qx qy)) (by omega) (by omega),A8 (n:=qy+DW (64*l*(py-qy)) (dTo px py qx qy)) (by omega) (by omega)]
  have v1:Y7 (64*l*(px-qx)) (dTo px py qx qy)=true:=by unfold Y7;exact decide_eq_true (by omega)
  have v2:Y7 (64*l*(py-qy)) (dTo px py qx qy)=true:=by unfold Y7;exact decide_eq_true (by omega)
  rw [k1,k2,v1,v2]
  have v3:decide (0≤sq px py qx qy*4096∧sq px py qx qy*4096≤4611686018427387904)=true:=decide_eq_true (by omega)
  rw [v3]
  have hT:TwR px py qx qy l=bif fpt (ToX px qx (dTo px py qx qy) l) (ToX py qy (dTo px py qx qy) l) then ((ToX px qx (dTo px py qx qy) l,ToX py qy (dTo px py qx qy) l),0) else ((0,0),4):=by
   unfold TwR;rw [k1,k2,k3,k4];rfl
  rw [hT]
  simp only [cond_true,Bool.and_self]
  refine Fa ?_ ?_ (fun k=>?_) (fun k=>?_)
  ·simp only [inK,Fz,Au];omega
  ·simp only [inK,Fz,Au];omega
  ·have k':fpt (ToX px qx (dTo px py qx qy) l) (ToX py qy (dTo px py qx qy) l)=false:=k
   rw [k'];exact A6 rfl
  ·have k':fpt (ToX px qx (dTo px py qx qy) l) (ToX py qy (dTo px py qx qy) l)=true:=k
   rw [k'];exact A6 rfl
abbrev A4o:PureT:=B9 [cPt,cPt,cI] [cPt,cI] (fun x=>true) (fun x=>(((TwR x.1.1 x.1.2.1 x.2.1.1 x.2.1.2.1 x.2.2.1).1.1,(TwR x.1.1 x.1.2.1 x.2.1.1 x.2.1.2.1 x.2.2.1).1.2,()),(TwR x.1.1 x.1.2.1 x.2.1.1 x.2.1.2.1 x.2.2.1).2,()))
theorem A4p:A5 Tryz.prog 59 A4o:=Bb (Aj Ak Aoh (A0 is_Towards (A0 is_fits A2))) 3 (fun x=>Aoj x.1.1 x.1.2.1 x.2.1.1 x.2.1.2.1 x.2.2.1) (fun x=>by kernel_rfl) fun x hok hw=>Ak1 hw.1.1 hw.1.2.1 hw.2.1.1 hw.2.1.2.1
end V
def Aok (a b c:Int):Tree (TCTs [.b]) :=
 bif decide (a≥b) then .leaf ((decide (a≤c)),()) else .leaf (false,())
theorem Ak2 {a b c:Int}:(Aok a b c).sat (fun y=>y=(!B7 a b c,())):=by
 unfold Aok
 refine Ax (fun h1=>?_) (fun h1=>?_)
 ·have h2:=of_decide_eq_true h1
  refine A6 ?_
  congr 1
  unfold B7
  rw [Bool.eq_iff_iff]
  simp only [decide_eq_true_eq,Bool.not_eq_true',Bool.or_eq_false_iff,decide_eq_false_iff_not]
  omega
 ·have h2:=of_decide_eq_false h1
  refine A6 ?_
  congr 1
  have:B7 a b c=true:=by unfold B7;simp;omega
  rw [this];rfl
abbrev A7e:PureT:=B9 [cI,cI,cI] [.b] (fun x=>true) (fun x=>(!B7 x.1 x.2.1 x.2.2.1,()))
theorem Ak3 (x y:Int):fpt x y=(!B7 x (-4194304) 4194304&&!B7 y (-4194304) 4194304):=by
 unfold fpt B7
 rw [Bool.eq_iff_iff]
 simp only [decide_eq_true_eq,Bool.and_eq_true,Bool.not_eq_true',Bool.or_eq_false_iff,decide_eq_false_iff_not]
 omega
namespace V
def Aon (x y:Int):Tree (TCTs [.b]) :=
 bif !B7 x (-4194304) 4194304 then .leaf ((!B7 y (-4194304) 4194304),()) else .leaf (false,())
theorem Ak4 {x y:Int}:(Aon x y).sat (fun z=>z=(fpt x y,())):=by
 unfold Aon
 rw [Ak3]
 refine Ax (fun h1=>?_) (fun h1=>?_) <;> (refine A6 ?_;rw [h1];rfl)
abbrev A7f:PureT:=B9 [cPt] [.b] (fun x=>true) (fun x=>(fpt x.1.1 x.1.2.1,()))
end V
namespace V
end V
namespace V
end V
end Go.Proofs.YtlangijnealfjaaGreat
