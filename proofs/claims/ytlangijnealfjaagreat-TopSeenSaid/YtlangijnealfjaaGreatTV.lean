import Derived.Test.YtlangijnealfjaaGreatZe
import Derived.Test.YtlangijnealfjaaGreatMA
import Derived.Test.YtlangijnealfjaaGreatRows
namespace Go.Proofs.YtlangijnealfjaaGreat
open Go.RowKit V
theorem is_outside:FnIs Tryz.prog (108,Tryz.f108):=⟨Tryz.func108,by kernel_rfl,by kernel_rfl⟩
theorem is_divide:FnIs Tryz.prog (119,Tryz.f119):=⟨Tryz.func119,by kernel_rfl,by kernel_rfl⟩
theorem is_root:FnIs Tryz.prog (118,Tryz.f118):=⟨Tryz.func118,by kernel_rfl,by kernel_rfl⟩
theorem is_Len64:FnIs Tryz.prog (188,Tryz.f188):=⟨Tryz.func188,by kernel_rfl,by kernel_rfl⟩
theorem is_fits:FnIs Tryz.prog (45,Tryz.f45):=⟨Tryz.func45,by kernel_rfl,by kernel_rfl⟩
theorem is_CheckDisc:FnIs Tryz.prog (43,Tryz.f43):=⟨Tryz.func43,by kernel_rfl,by kernel_rfl⟩
theorem is_square:FnIs Tryz.prog (54,Tryz.f54):=⟨Tryz.func54,by kernel_rfl,by kernel_rfl⟩
theorem is_Towards:FnIs Tryz.prog (59,Tryz.f59):=⟨Tryz.func59,by kernel_rfl,by kernel_rfl⟩
theorem Ha:FnIs Tryz.prog (70,Tryz.f70):=⟨Tryz.func70,by kernel_rfl,by kernel_rfl⟩
namespace V
abbrev cPt:TC:=.st [.i .i64,.i .i64]
abbrev A1:TC:=.st [cPt,.i .i64]
end V
abbrev If:PureT:=Bh [cI,cI,cI] [.b] (fun _=>true) (fun x=>(Bd x.1 x.2.1 x.2.2.1,()))
theorem Acy {a b c:Int}:(bif decide (a<b) then .leaf (true,()) else .leaf (decide (a>c),()):Tree (TCTs [.b])).sat (fun y=>y=(Bd a b c,())):=by
 refine B0 (fun h1=>?_) (fun h1=>?_) <;> (refine A8 ?_;unfold Bd;rw [h1];rfl)
theorem Tm:A6 Tryz.prog 108 If:=Bj (An Am puOk_nil (A0 is_outside A2)) 2 (fun x=>bif decide (x.1<x.2.1) then .leaf (true,()) else .leaf (decide (x.1>x.2.2.1),())) (fun x=>by kernel_rfl) fun _ _ _=>Acy
theorem Azt:Cd Tryz.prog [(108,If)]:=puOk_cons is_outside.plain Tm puOk_nil
def Tn (n d:Int):Tree (TCTs [.st [cI,cI]]) :=
 bif d != 0 then bif d != 0 then
      bif decide (IntKind.i64.wrap (2*n.tmod d)≥d) then .leaf (((IntKind.i64.wrap (IntKind.i64.wrap (n.tdiv d)+1)),(IntKind.i64.wrap (n.tmod d-d)),()),())
      else bif decide (IntKind.i64.wrap (2*n.tmod d)<IntKind.i64.wrap (0-d)) then .leaf (((IntKind.i64.wrap (IntKind.i64.wrap (n.tdiv d)-1)),(IntKind.i64.wrap (n.tmod d+d)),()),())
      else .leaf (((IntKind.i64.wrap (n.tdiv d)),(n.tmod d),()),())
     else .fail else .fail
theorem A3f {n d:Int} (hok:A0i n d=true):(Tn n d).sat (fun y=>y=((DW n d,DR n d,()),())):=by
 unfold Tn
 unfold A0i at hok
 obtain ⟨h1,h2,h3,h4⟩:=of_decide_eq_true hok
 have hd:(d != 0)=true:=by simp;omega
 have ⟨k1,k2⟩:=Aa0 n d h3
 have ⟨k3,k4⟩:=Awy n d 1152921504606846976 h3 h1 h2
 rw [Ai (n:=2*n.tmod d) (by omega) (by omega),Ai (n:=n.tdiv d) (by omega) (by omega),Ai (n:=n.tdiv d+1) (by omega) (by omega),Ai (n:=n.tdiv d-1) (by omega) (by omega),
  Ai (n:=n.tmod d-d) (by omega) (by omega),Ai (n:=n.tmod d+d) (by omega) (by omega),Ai (n:=0-d) (by omega) (by omega),hd]
 refine B0 (fun _=>B0 (fun _=>B0 (fun h5=>?_) (fun h5=>B0 (fun h6=>?_) (fun h6=>?_))) (fun h=>by simp at h)) (fun h=>by simp at h)
 ·obtain ⟨e1,e2⟩:=Awz n d h3 (of_decide_eq_true h5)
  refine A8 ?_
  rw [e1,e2]
 ·obtain ⟨e1,e2⟩:=Ax0 n d h3 (by have:=of_decide_eq_true h6;omega)
  refine A8 ?_
  rw [e1,e2]
 ·obtain ⟨e1,e2⟩:=Atc n d h3 (by have:=of_decide_eq_false h5;omega) (by have:=of_decide_eq_false h6;omega)
  refine A8 ?_
  rw [e1,e2]
abbrev To:PureT:=Bh [cI,cI] [.st [cI,cI]] (fun x=>A0i x.1 x.2.1) (fun x=>((DW x.1 x.2.1,DR x.1 x.2.1,()),()))
theorem Acz:A6 Tryz.prog 119 To:=Bj (An Am puOk_nil (A0 is_divide A2)) 2 (fun x=>Tn x.1 x.2.1) (fun x=>by kernel_rfl) fun x hok hw=>A3f hok
theorem Azu:Cd Tryz.prog [(119,To),(108,If)]:=puOk_cons is_divide.plain Acz Azt
namespace V
end V
def tbB:ByteArray:=⟨((List.range 256).map fun i=>UInt8.ofNat (if i=0 then 0 else Nat.log2 i+1)).toArray⟩
def Ao2 (i:Nat):Int:=((tbB.data.toList.getD i 0).toNat:Int)
theorem Ao3:∀ i,i<256→(tbB.data.toList.getD i 0).toNat=bl i:=by decide +kernel
theorem Ai4 (i:Nat) (h:i<256):Ao2 i=bl i:=by unfold Ao2;rw [Ao3 i h]
attribute [irreducible] Ao2 tbB
def Ai5 (n k:Int):Int:=n.fdiv (2 ^ min (Int.toNat k) IntKind.u64.bits)
def Ao4 (m s:Int):Tree (TCTs [cI]):=bif decide (0≤IntKind.u8.wrap m∧IntKind.u8.wrap m<256) then .leaf (IntKind.i64.wrap (s+IntKind.i64.wrap (Ao2 (IntKind.u8.wrap m).toNat)),()) else .fail
def Ao5 (m s:Int):Tree (TCTs [cI]):=bif decide (m≥256) then Ao4 (Ai5 m 8) (IntKind.i64.wrap (s+8)) else Ao4 m s
def A0l (m s:Int):Tree (TCTs [cI]):=bif decide (m≥65536) then Ao5 (Ai5 m 16) (IntKind.i64.wrap (s+16)) else Ao5 m s
def Atf (n:Int):Tree (TCTs [cI]):=bif decide (n≥4294967296) then A0l (Ai5 n 32) 32 else A0l n 0
section
attribute [local irreducible] Tree.sat
theorem Tq (n k:Nat) (hk:k≤64):Ai5 (n:Int) (k:Int)=((n / 2 ^ k:Nat):Int):=by
 unfold Ai5
 have:min (Int.toNat (k:Int)) IntKind.u64.bits=k:=by simp [IntKind.bits];omega
 rw [this,Int.fdiv_eq_ediv_of_nonneg _ (by exact Int.le_of_lt (Int.pow_pos (by decide)))]
 simp
theorem Ad0 (m:Nat) (h:m<256):IntKind.u8.wrap (m:Int)=m:=by
 unfold IntKind.wrap;simp [IntKind.bits,IntKind.signed];omega
theorem Aa2 {R:TCTs [cI]→Prop} (m s:Nat) (hm:m<256) (hs:s≤56) (h:R (((s+bl m:Nat):Int),())):(Ao4 (m:Int) (s:Int)).sat R:=by
 unfold Ao4
 rw [Ad0 m hm]
 have hb:bl m≤8:=Tl m 8 (by omega)
 refine B0 (fun _=>?_) (fun h=>?_)
 ·rw [Int.toNat_natCast,Ai4 m hm,Ai (n:=(bl m:Int)) (by omega) (by omega),Ai (n:=(s:Int)+(bl m:Int)) (by omega) (by omega)]
  refine A8 ?_
  rw [← Int.natCast_add];exact h
 ·have:=of_decide_eq_false h;omega
theorem Aa3 {R:TCTs [cI]→Prop} (m s:Nat) (hm:m<65536) (hs:s≤48) (h:R (((s+bl m:Nat):Int),())):(Ao5 (m:Int) (s:Int)).sat R:=by
 unfold Ao5
 refine B0 (fun h1=>?_) (fun h1=>?_)
 ·have h2:=of_decide_eq_true h1
  rw [Ai (n:=(s:Int)+8) (by omega) (by omega)]
  have e1:=Tq m 8 (by omega)
  simp only [Int.cast_ofNat_Int] at e1
  rw [e1]
  have e2:(s:Int)+8=((s+8:Nat):Int):=by simp
  rw [e2]
  refine Aa2 (m / 2 ^ 8) (s+8) (by omega) (by omega) ?_
  have:=A75 m 8 (by omega)
  rwa [show s+8+bl (m / 2 ^ 8)=s+bl m by omega]
 ·have h2:=of_decide_eq_false h1
  exact Aa2 m s (by omega) (by omega) h
theorem Aa4 {R:TCTs [cI]→Prop} (m s:Nat) (hm:m<4294967296) (hs:s≤32) (h:R (((s+bl m:Nat):Int),())):(A0l (m:Int) (s:Int)).sat R:=by
 unfold A0l
 refine B0 (fun h1=>?_) (fun h1=>?_)
 ·have h2:=of_decide_eq_true h1
  rw [Ai (n:=(s:Int)+16) (by omega) (by omega)]
  have e1:=Tq m 16 (by omega)
  simp only [Int.cast_ofNat_Int] at e1
  rw [e1]
  have e2:(s:Int)+16=((s+16:Nat):Int):=by simp
  rw [e2]
  refine Aa3 (m / 2 ^ 16) (s+16) (by omega) (by omega) ?_
  have:=A75 m 16 (by omega)
  rwa [show s+16+bl (m / 2 ^ 16)=s+bl m by omega]
 ·have h2:=of_decide_eq_false h1
  exact Aa3 m s (by omega) (by omega) h
theorem Ao6 {R:TCTs [cI]→Prop} (n:Int) (h0:0≤n) (h1:n≤18446744073709551615) (h:R ((bl n.toNat:Int),())):(Atf n).sat R:=by
 obtain ⟨m,rfl⟩:=Int.eq_ofNat_of_zero_le h0
 rw [Int.toNat_natCast] at h
 unfold Atf
 refine B0 (fun h1=>?_) (fun h1=>?_)
 ·have h2:=of_decide_eq_true h1
  have e1:=Tq m 32 (by omega)
  simp only [Int.cast_ofNat_Int] at e1
  rw [e1]
  refine Aa4 (m / 2 ^ 32) 32 (by omega) (by omega) ?_
  have:=A75 m 32 (by omega)
  rwa [show 32+bl (m / 2 ^ 32)=bl m by omega]
 ·have h2:=of_decide_eq_false h1
  exact Aa4 m 0 (by omega) (by omega) (by rwa [Nat.zero_add])
end
abbrev A0m:PureT:=Bh [.i .u64] [cI] (fun _=>true) (fun x=>((bl x.1.toNat:Int),()))
theorem Ai6:A6 Tryz.prog 188 A0m:=Bj (An Am puOk_nil (A0 is_Len64 A2)) 2 (fun x=>Atf x.1) (fun x=>by kernel_rfl) fun x _ hw=>Ao6 x.1 hw.1.1 hw.1.2 rfl
theorem Ad1:Cd Tryz.prog [(188,A0m)]:=puOk_cons is_Len64.plain Ai6 puOk_nil
noncomputable def Aa5:Code:=(Ah (bodyOf Tryz.f118)).getD 0 .skip
def Ka:Lay:={ keys:=[0,3],ks:=[.d cI,.d cI],bs:=[],n:=25,nx:=1000,marks:=[] }
def Ao7:Lay:={ keys:=[2],ks:=[.d cI],bs:=[],n:=25,nx:=1000,marks:=[] }
def Mm:XE→Lay:=fun _=>Ao7
def Lk (n x:Int):Ka.T:=((n,x,()),())
def A0n (r:Int):A4 Mm:=⟨.ret,((r,()),())⟩
def S9 (n x:Int):Int:=IntKind.i64.wrap ((IntKind.i64.wrap (x+IntKind.i64.wrap (n.tdiv x))).tdiv 2)
def Tr (n x:Int):Tree (Ka.T⊕A4 Mm):=bif x != 0 then bif decide (S9 n x≥x) then .leaf (.inr (A0n x)) else .leaf (.inl (Lk n (S9 n x))) else .fail
def Ll (g:Ka.T):Tree (Ka.T⊕A4 Mm):=Tr g.1.1 g.1.2.1
def A0o (g:Ka.T):Nat:=Int.toNat g.1.2.1+1
theorem Atg:Av Tryz.prog 118 Aa5 (Au Ka Mm (D5 [.ret] Ll A0o)):=Bu (An Am puOk_nil A2) 1 _ Ka Mm (fun _=>Nat.le_refl _) [.ret] Ll A0o (fun g=>by kernel_rfl)
theorem Aa6 {n:Int} (h1:2≤n) (h2:n≤4611686018427387904):∀ (k:Nat) (x:Int),1≤x→x≤4294967296→rt n≤x→x.toNat≤k→iter Ll (k+1) (Lk n x)=some (A0n (rt n))
 | 0,x,h3,_,_,hk=>by omega
 | k+1,x,h3,h4,h5,hk=>by
  have hq:=Int.ediv_nonneg (show 0≤n by omega) (show 0≤x by omega)
  have hq2:=Int.ediv_le_self x (show 0≤n by omega)
  have e1:S9 n x=(x+n / x) / 2:=by
   unfold S9
   rw [Int.tdiv_eq_ediv_of_nonneg (show 0≤n by omega),Ai (n:=n / x) (by omega) (by omega),Ai (n:=x+n / x) (by omega) (by omega),Int.tdiv_eq_ediv_of_nonneg (by omega),Ai (by omega) (by omega)]
  have hge:=Acw n x (by omega) h3
  have hx0:(x != 0)=true:=by simp;omega
  have hs:Ll (Lk n x)=bif decide ((x+n / x) / 2≥x) then .leaf (.inr (A0n x)) else .leaf (.inl (Lk n ((x+n / x) / 2))):=by
   show Tr n x=_
   unfold Tr
   rw [hx0,e1]
   rfl
  cases hd:decide ((x+n / x) / 2≥x) with
  | true =>
   have h7:=of_decide_eq_true hd
   have hx:=A76 n x (by omega) h3 h5 (by omega)
   rw [← hx]
   exact F7 (by rw [hs,hd];rfl)
  | false =>
   have h7:=of_decide_eq_false hd
   have hr:=(J6 n (by omega)).1
   have hpos:1≤(x+n / x) / 2:=by
    have:1≤rt n:=by
     have hc:=(J6 n (by omega)).2.2
     rcases Int.lt_or_le (rt n) 1 with k | k
     ·have:rt n=0:=by omega
      rw [this] at hc;omega
     ·exact k
    omega
   rw [Js (g':=Lk n ((x+n / x) / 2)) (by rw [hs,hd];rfl)]
   exact Aa6 h1 h2 k _ hpos (by omega) hge (by omega)
theorem Ai7 (n:Int) (h0:0≤n) (h:n<2):rt n=n:=Acv n n h0 (by rcases (show n=0∨n=1 by omega) with rfl | rfl <;> decide) (by rcases (show n=0∨n=1 by omega) with rfl | rfl <;> decide)
abbrev Ai8:PureT:=Bh [cI] [cI] (fun x=>decide (0≤x.1∧x.1≤4611686018427387904)) (fun x=>(rt x.1,()))
noncomputable def Ath:Ctx:=F8 Tryz.prog [(188,A0m)] [(118,Tryz.f118)] [((118,V.keyOf Aa5),Au Ka Mm (D5 [.ret] Ll A0o))]
theorem Ad2:CtxOk Ath:=Bt Am Ad1 (A0 is_root A2) (C3 rfl (by kernel_rfl) Atg)
def A0p (n:Int):Int:=IntKind.i64.wrap (1*2 ^ min (IntKind.i64.wrap ((IntKind.i64.wrap ((bl (IntKind.u64.wrap n).toNat:Int)+1)).tdiv 2)).toNat IntKind.i64.bits)
def A77 (n:Int):Option (A4 Mm):=iter Ll (Int.toNat (A0p n)+1) (Lk n (A0p n))
def A78 (n:Int):Tree (TCTs [cI]):=bif decide (n<2) then .leaf (n,()) else bif decide (0≤IntKind.i64.wrap ((IntKind.i64.wrap ((bl (IntKind.u64.wrap n).toNat:Int)+1)).tdiv 2)) then bif isE .ret (A77 n) then .leaf ((D4 .ret (A77 n)).1.1,()) else .fail else .fail
theorem Ad3 {n:Int} (h0:0≤n) (h1:n≤4611686018427387904):(A78 n).sat (fun y=>y=(rt n,())):=by
 unfold A78 A77 A0p
 have hwr:IntKind.u64.wrap n=n:=by unfold IntKind.wrap;simp [IntKind.bits,IntKind.signed];omega
 have hb:bl n.toNat≤63:=Tl _ 63 (by omega)
 rw [hwr,Ai (n:=(bl n.toNat:Int)+1) (by omega) (by omega),Int.tdiv_eq_ediv_of_nonneg (by omega),Ai (n:=((bl n.toNat:Int)+1) / 2) (by omega) (by omega)]
 refine B0 (fun h2=>?_) (fun h2=>B0 (fun h3=>?_) (fun h3=>?_))
 ·have:=of_decide_eq_true h2
  refine A8 ?_
  rw [Ai7 n h0 this]
 ·have h5:=of_decide_eq_false h2
  have e2:min (((bl n.toNat:Int)+1) / 2).toNat IntKind.i64.bits=(bl n.toNat+1) / 2:=by simp [IntKind.bits];omega
  rw [e2,Int.one_mul]
  have hs:=A0k n h0
  have hk:(bl n.toNat+1) / 2≤32:=by omega
  have hp1:(1:Int)≤2 ^ ((bl n.toNat+1) / 2):=Int.pow_pos (by decide)
  have hp2:(2:Int) ^ ((bl n.toNat+1) / 2)≤4294967296:=by
   have:2 ^ ((bl n.toNat+1) / 2)≤2 ^ 32:=Nat.pow_le_pow_right (by decide) hk
   have h6:((2 ^ ((bl n.toNat+1) / 2):Nat):Int)≤((2 ^ 32:Nat):Int):=by exact_mod_cast this
   rw [Int.natCast_pow] at h6
   simpa using h6
  generalize (2:Int) ^ ((bl n.toNat+1) / 2)=y at hs hp1 hp2
  rw [Ai (by omega) (by omega)]
  have hr:=Ax1 n y h0 (by omega) hs
  rw [Aa6 (by omega) h1 y.toNat y hp1 hp2 hr (Nat.le_refl _)]
  exact A8 rfl
 ·have:=of_decide_eq_false h3;omega
theorem Ao8:A6 Tryz.prog 118 Ai8:=Bj Ad2 3 (fun x=>A78 x.1) (fun x=>by kernel_rfl) fun x hok _=>Ad3 (of_decide_eq_true hok).1 (of_decide_eq_true hok).2
namespace V
end V
theorem Y2 {x lo hi:Int} (h:Bd x lo hi=false):lo≤x∧x≤hi:=by
 unfold Bd at h
 simp only [Bool.or_eq_false_iff,decide_eq_false_iff_not] at h
 omega
def Ts (x y:Int):Bool:=decide (max (max (max x (IntKind.i64.wrap (0-x))) y) (IntKind.i64.wrap (0-y))>4194304)
def Tt (x y:Int):Bool:=decide (min x y < -4194304)
def fpt (x y:Int):Bool:=decide (-4194304≤x∧x≤4194304 ∧ -4194304≤y∧y≤4194304)
theorem A3g (x:Int) (h1 : -9223372036854775808≤x) (h2:x≤9223372036854775807):IntKind.i64.wrap (0-x)=if x = -9223372036854775808 then x else -x:=by
 split
 ·rename_i h;subst h;rfl
 ·rw [Ai (by omega) (by omega)];omega
theorem Ai9 {x y:Int} (hx:inK .i64 x) (hy:inK .i64 y) (h:Ts x y=true):fpt x y=false:=by
 simp only [inK,Gb,Aw] at hx hy
 unfold Ts at h;unfold fpt
 have h1:=of_decide_eq_true h
 rw [A3g x (by omega) (by omega),A3g y (by omega) (by omega)] at h1
 refine decide_eq_false ?_
 split at h1 <;> split at h1 <;> omega
theorem Aia {x y:Int} (h:Tt x y=true):fpt x y=false:=by
 unfold Tt at h;unfold fpt
 have h1:=of_decide_eq_true h
 refine decide_eq_false ?_
 omega
theorem Ati {x y:Int} (h:Ts x y=false) (k:Tt x y=false):fpt x y=true:=by
 unfold Ts at h;unfold Tt at k;unfold fpt
 have h1:=of_decide_eq_false h
 have k1:=of_decide_eq_false k
 refine decide_eq_true ?_
 omega
theorem G8 {x y:Int} (h:fpt x y=true) : -4194304≤x∧x≤4194304 ∧ -4194304≤y∧y≤4194304:=of_decide_eq_true h
theorem Fw {α:Type} {R:α→Prop} {x y:Int} {t u:Tree α} (hx:inK .i64 x) (hy:inK .i64 y) (h1:fpt x y=false→t.sat R) (h2:fpt x y=true→u.sat R):(bif Ts x y then t else bif Tt x y then t else u).sat R :=
 B0 (fun h=>h1 (Ai9 hx hy h)) (fun h=>B0 (fun k=>h1 (Aia k)) (fun k=>h2 (Ati h k)))
def u_ck (x y:Int):Int:=bif fpt x y then 0 else 2
def u_cdOk (x y r:Int):Bool:=fpt x y&&!Bd r 1 65536
def K1 (x y r:Int):Int:=bif u_cdOk x y r then 0 else 2
namespace V
def Aib (ax ay:Int):Tree (TCTs [cI]) :=
 bif Ts ax ay then .leaf (2,()) else bif Tt ax ay then .leaf (2,()) else .leaf (0,())
theorem Aic {ax ay:Int} (a1:inK .i64 ax) (a2:inK .i64 ay):(Aib ax ay).sat (fun y=>y=(u_ck ax ay,())):=by
 unfold Aib
 refine Fw a1 a2 (fun k=>?_) (fun k=>?_) <;> (refine A8 ?_;unfold u_ck;rw [k];rfl)
abbrev Nu:PureT:=Bh [cPt] [cI] (fun x=>true) (fun x=>(u_ck x.1.1 x.1.2.1,()))
theorem Nv:A6 Tryz.prog 70 Nu:=Bj (An Am puOk_nil (A0 Ha (A0 is_fits A2))) 3 (fun x=>Aib x.1.1 x.1.2.1) (fun x=>by kernel_rfl) fun x hok hw=>Aic hw.1.1 hw.1.2.1
def Aid (px py r:Int):Tree (TCTs [cI]) :=
 bif Ts px py then .leaf (2,()) else bif Tt px py then .leaf (2,()) else
    bif decide (r<1) then .leaf (2,()) else bif decide (r>65536) then .leaf (2,()) else .leaf (0,())
theorem Aie {px py r:Int} (a1:inK .i64 px) (a2:inK .i64 py):(Aid px py r).sat (fun y=>y=(K1 px py r,())):=by
 unfold Aid
 refine Fw a1 a2 (fun k=>?_) (fun k1=>B0 (fun k=>?_) (fun k2=>B0 (fun k=>?_) (fun k3=>?_)))
 ·refine A8 ?_
  unfold K1 u_cdOk;rw [k];rfl
 ·refine A8 ?_
  unfold K1 u_cdOk Bd;rw [k1,k];rfl
 ·have k':decide (65536<r)=true:=k
  refine A8 ?_
  unfold K1 u_cdOk Bd;rw [k1,k2,k'];rfl
 ·have k':decide (65536<r)=false:=k3
  refine A8 ?_
  unfold K1 u_cdOk Bd;rw [k1,k2,k'];rfl
abbrev Kb:PureT:=Bh [A1] [cI] (fun x=>true) (fun x=>(K1 x.1.1.1 x.1.1.2.1 x.1.2.1,()))
theorem Kc:A6 Tryz.prog 43 Kb:=Bj (An Am puOk_nil (A0 is_CheckDisc (A0 is_fits A2))) 3 (fun x=>Aid x.1.1.1 x.1.1.2.1 x.1.2.1) (fun x=>by kernel_rfl) fun x hok hw=>Aie hw.1.1.1 hw.1.1.2.1
end V
def Aif (ax ay bx bY:Int):Tree (TCTs [cI]) :=
 .leaf ((IntKind.i64.wrap (IntKind.i64.wrap (IntKind.i64.wrap (bx-ax)*IntKind.i64.wrap (bx-ax))+IntKind.i64.wrap (IntKind.i64.wrap (bY-ay)*IntKind.i64.wrap (bY-ay)))),())
theorem Aig {ax ay bx bY:Int} (hok:(fpt ax ay&&fpt bx bY)=true):(Aif ax ay bx bY).sat (fun y=>y=(sq ax ay bx bY,())):=by
 unfold Aif
 rw [Bool.and_eq_true] at hok
 have c1:=G8 hok.1
 have c2:=G8 hok.2
 have b1:=De (a:=bx-ax) (b:=bx-ax) (A:=8388608) (B:=8388608) (by omega) (by omega) (by omega) (by omega)
 have b2:=De (a:=bY-ay) (b:=bY-ay) (A:=8388608) (B:=8388608) (by omega) (by omega) (by omega) (by omega)
 rw [Ai (n:=bx-ax) (by omega) (by omega),Ai (n:=bY-ay) (by omega) (by omega),Ai (n:=(bx-ax)*(bx-ax)) (by omega) (by omega),Ai (n:=(bY-ay)*(bY-ay)) (by omega) (by omega),Ai (n:=(bx-ax)*(bx-ax)+(bY-ay)*(bY-ay)) (by omega) (by omega)]
 refine A8 ?_
 unfold sq;rfl
abbrev Tu:PureT:=Bh [cPt,cPt] [cI] (fun x=>fpt x.1.1 x.1.2.1&&fpt x.2.1.1 x.2.1.2.1) (fun x=>(sq x.1.1 x.1.2.1 x.2.1.1 x.2.1.2.1,()))
theorem Y3:A6 Tryz.prog 54 Tu:=Bj (An Am puOk_nil (A0 is_square A2)) 2 (fun x=>Aif x.1.1 x.1.2.1 x.2.1.1 x.2.1.2.1) (fun x=>by kernel_rfl) fun x hok hw=>Aig hok
def Atj:List (Nat×PureT):=[(54,Tu),(118,Ai8),(119,To),(108,If)]
theorem Atk:Cd Tryz.prog Atj:=puOk_cons is_square.plain Y3 (puOk_cons is_root.plain Ao8 Azu)
namespace V
end V
def ToX (px qx d l:Int):Int:=qx+DW (64*l*(px-qx)) d
def dTo (px py qx qy:Int):Int:=rt (sq px py qx qy*4096)
def TwR (px py qx qy l:Int):(Int×Int)×Int :=
 bif fpt px py&&fpt qx qy then bif Bd l 0 4194304 then ((0,0),3) else bif px==qx&&py==qy then ((0,0),9) else
  bif fpt (ToX px qx (dTo px py qx qy) l) (ToX py qy (dTo px py qx qy) l) then ((ToX px qx (dTo px py qx qy) l,ToX py qy (dTo px py qx qy) l),0) else ((0,0),4)
 else ((0,0),2)
theorem Aih {px py qx qy:Int} (h:fpt px py=true) (k:fpt qx qy=true):0≤sq px py qx qy∧sq px py qx qy≤140737488355328:=by
 have c1:=G8 h
 have c2:=G8 k
 have b1:=De (a:=qx-px) (b:=qx-px) (A:=8388608) (B:=8388608) (by omega) (by omega) (by omega) (by omega)
 have b2:=De (a:=qy-py) (b:=qy-py) (A:=8388608) (B:=8388608) (by omega) (by omega) (by omega) (by omega)
 have b3:=Gn (qx-px)
 have b4:=Gn (qy-py)
 unfold sq;omega
theorem Atl {px py qx qy:Int} (h:fpt px py=true) (k:fpt qx qy=true) (hne:¬ (px=qx∧py=qy)):1≤dTo px py qx qy∧dTo px py qx qy≤576460752303423488:=by
 have h1:=Aih h k
 have h2:=Atd hne
 obtain ⟨r1,r2,r3⟩:=J6 (sq px py qx qy*4096) (by omega)
 unfold dTo
 generalize rt (sq px py qx qy*4096)=d at r1 r2 r3
 have hd:1≤d:=by
  rcases Int.lt_or_le d 1 with x | x
  ·have:d=0:=by omega
   subst this
   omega
  ·exact x
 have:=Int.mul_le_mul_of_nonneg_left hd (show 0≤d by omega)
 omega
namespace V
def Atm (px py qx qy l:Int):Tree (TCTs [cPt,cI]) :=
 let d:=rt (IntKind.i64.wrap (sq px py qx qy*4096))
    let ux:=IntKind.i64.wrap (IntKind.i64.wrap (64*l)*IntKind.i64.wrap (px-qx))
    let uy:=IntKind.i64.wrap (IntKind.i64.wrap (64*l)*IntKind.i64.wrap (py-qy))
    bif Ts px py then .leaf ((0,0,()),2,()) else bif Tt px py then .leaf ((0,0,()),2,()) else
    bif Ts qx qy then .leaf ((0,0,()),2,()) else bif Tt qx qy then .leaf ((0,0,()),2,()) else
    bif Bd l 0 4194304 then .leaf ((0,0,()),3,()) else
    bif px==qx&&(py==qy&&true) then .leaf ((0,0,()),9,()) else
    bif fpt px py&&fpt qx qy then bif decide (0≤IntKind.i64.wrap (sq px py qx qy*4096)∧IntKind.i64.wrap (sq px py qx qy*4096)≤4611686018427387904) then
    bif A0i ux d then bif A0i uy d then
    bif Ts (IntKind.i64.wrap (qx+DW ux d)) (IntKind.i64.wrap (qy+DW uy d)) then .leaf ((0,0,()),4,()) else bif Tt (IntKind.i64.wrap (qx+DW ux d)) (IntKind.i64.wrap (qy+DW uy d)) then .leaf ((0,0,()),4,()) else
     .leaf (((IntKind.i64.wrap (qx+DW ux d)),(IntKind.i64.wrap (qy+DW uy d)),()),0,())
    else .fail else .fail else .fail else .fail
theorem Ao9 {px py qx qy l:Int} (a1:inK .i64 px) (a2:inK .i64 py) (a3:inK .i64 qx) (a4:inK .i64 qy):(Atm px py qx qy l).sat (fun y=>y=(((TwR px py qx qy l).1.1,(TwR px py qx qy l).1.2,()),(TwR px py qx qy l).2,())):=by
 unfold Atm
 dsimp only
 refine Fw a1 a2 (fun k=>?_) (fun k1=>Fw a3 a4 (fun k=>?_) (fun k2=>B0 (fun k=>?_) (fun k3=>B0 (fun k=>?_) (fun k4=>?_))))
 ·refine A8 ?_
  unfold TwR;rw [k];rfl
 ·refine A8 ?_
  unfold TwR;rw [k1,k];rfl
 ·refine A8 ?_
  unfold TwR;rw [k1,k2,k];rfl
 ·refine A8 ?_
  rw [Bool.and_true] at k
  unfold TwR;rw [k1,k2,k3,k];rfl
 ·have c1:=G8 k1
  have c2:=G8 k2
  have c3:=Y2 k3
  rw [Bool.and_true] at k4
  have hne:¬ (px=qx∧py=qy):=by
   intro hh;simp [hh.1,hh.2] at k4
  have s1:=Aih k1 k2
  have hd:=Atl k1 k2 hne
  have b1:=De (a:=64*l) (b:=px-qx) (A:=268435456) (B:=8388608) (by omega) (by omega) (by omega) (by omega)
  have b2:=De (a:=64*l) (b:=py-qy) (A:=268435456) (B:=8388608) (by omega) (by omega) (by omega) (by omega)
  rw [Ai (n:=sq px py qx qy*4096) (by omega) (by omega),Ai (n:=64*l) (by omega) (by omega),Ai (n:=px-qx) (by omega) (by omega),Ai (n:=py-qy) (by omega) (by omega),Ai (n:=64*l*(px-qx)) (by omega) (by omega),Ai (n:=64*l*(py-qy)) (by omega) (by omega)]
  have hdd:rt (sq px py qx qy*4096)=dTo px py qx qy:=rfl
  rw [hdd]
  have w1:=Ar5 (64*l*(px-qx)) (dTo px py qx qy) 2251799813685248 hd.1 (by omega) (by omega) (by omega)
  have w2:=Ar5 (64*l*(py-qy)) (dTo px py qx qy) 2251799813685248 hd.1 (by omega) (by omega) (by omega)
  rw [Ai (n:=qx+DW (64*l*(px-qx)) (dTo px py qx qy)) (by omega) (by omega),Ai (n:=qy+DW (64*l*(py-qy)) (dTo px py qx qy)) (by omega) (by omega)]
  have v1:A0i (64*l*(px-qx)) (dTo px py qx qy)=true:=by unfold A0i;exact decide_eq_true (by omega)
  have v2:A0i (64*l*(py-qy)) (dTo px py qx qy)=true:=by unfold A0i;exact decide_eq_true (by omega)
  rw [k1,k2,v1,v2]
  have v3:decide (0≤sq px py qx qy*4096∧sq px py qx qy*4096≤4611686018427387904)=true:=decide_eq_true (by omega)
  rw [v3]
  have hT:TwR px py qx qy l=bif fpt (ToX px qx (dTo px py qx qy) l) (ToX py qy (dTo px py qx qy) l) then ((ToX px qx (dTo px py qx qy) l,ToX py qy (dTo px py qx qy) l),0) else ((0,0),4):=by
   unfold TwR;rw [k1,k2,k3,k4];rfl
  rw [hT]
  simp only [cond_true,Bool.and_self]
  refine Fw ?_ ?_ (fun k=>?_) (fun k=>?_)
  ·simp only [inK,Gb,Aw];omega
  ·simp only [inK,Gb,Aw];omega
  ·have k':fpt (ToX px qx (dTo px py qx qy) l) (ToX py qy (dTo px py qx qy) l)=false:=k
   rw [k'];exact A8 rfl
  ·have k':fpt (ToX px qx (dTo px py qx qy) l) (ToX py qy (dTo px py qx qy) l)=true:=k
   rw [k'];exact A8 rfl
abbrev A79:PureT:=Bh [cPt,cPt,cI] [cPt,cI] (fun x=>true) (fun x=>(((TwR x.1.1 x.1.2.1 x.2.1.1 x.2.1.2.1 x.2.2.1).1.1,(TwR x.1.1 x.1.2.1 x.2.1.1 x.2.1.2.1 x.2.2.1).1.2,()),(TwR x.1.1 x.1.2.1 x.2.1.1 x.2.1.2.1 x.2.2.1).2,()))
theorem A7a:A6 Tryz.prog 59 A79:=Bj (An Am Atk (A0 is_Towards (A0 is_fits A2))) 3 (fun x=>Atm x.1.1 x.1.2.1 x.2.1.1 x.2.1.2.1 x.2.2.1) (fun x=>by kernel_rfl) fun x hok hw=>Ao9 hw.1.1 hw.1.2.1 hw.2.1.1 hw.2.1.2.1
end V
def Atn (a b c:Int):Tree (TCTs [.b]) :=
 bif decide (a≥b) then .leaf ((decide (a≤c)),()) else .leaf (false,())
theorem Aoa {a b c:Int}:(Atn a b c).sat (fun y=>y=(!Bd a b c,())):=by
 unfold Atn
 refine B0 (fun h1=>?_) (fun h1=>?_)
 ·have h2:=of_decide_eq_true h1
  refine A8 ?_
  congr 1
  unfold Bd
  rw [Bool.eq_iff_iff]
  simp only [decide_eq_true_eq,Bool.not_eq_true',Bool.or_eq_false_iff,decide_eq_false_iff_not]
  omega
 ·have h2:=of_decide_eq_false h1
  refine A8 ?_
  congr 1
  have:Bd a b c=true:=by unfold Bd;simp;omega
  rw [this];rfl
abbrev Aa7:PureT:=Bh [cI,cI,cI] [.b] (fun x=>true) (fun x=>(!Bd x.1 x.2.1 x.2.2.1,()))
theorem Aob (x y:Int):fpt x y=(!Bd x (-4194304) 4194304&&!Bd y (-4194304) 4194304):=by
 unfold fpt Bd
 rw [Bool.eq_iff_iff]
 simp only [decide_eq_true_eq,Bool.and_eq_true,Bool.not_eq_true',Bool.or_eq_false_iff,decide_eq_false_iff_not]
 omega
namespace V
def Atq (x y:Int):Tree (TCTs [.b]) :=
 bif !Bd x (-4194304) 4194304 then .leaf ((!Bd y (-4194304) 4194304),()) else .leaf (false,())
theorem Aoc {x y:Int}:(Atq x y).sat (fun z=>z=(fpt x y,())):=by
 unfold Atq
 rw [Aob]
 refine B0 (fun h1=>?_) (fun h1=>?_) <;> (refine A8 ?_;rw [h1];rfl)
abbrev Aa8:PureT:=Bh [cPt] [.b] (fun x=>true) (fun x=>(fpt x.1.1 x.1.2.1,()))
end V
namespace V
end V
namespace V
end V
end Go.Proofs.YtlangijnealfjaaGreat
