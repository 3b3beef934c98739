import Derived.Test.YtlangijnealfjaaGreatCq
namespace Go.Proofs.YtlangijnealfjaaGreat
open Go.RowKit
namespace V
namespace St
theorem is_sStrike2:FnIs Tryz.prog (72,Tryz.f72):=⟨Tryz.func72,by kernel_rfl,by kernel_rfl⟩
theorem is_sFollow:FnIs Tryz.prog (75,Tryz.f75):=⟨Tryz.func75,by kernel_rfl,by kernel_rfl⟩
theorem is_sStrong:FnIs Tryz.prog (76,Tryz.f76):=⟨Tryz.func76,by kernel_rfl,by kernel_rfl⟩
def U8 (k:Int):Int:=bif 1==k then 150 else bif 2==k then 500 else bif 3==k then 900 else 0
abbrev B4x:PureT:=Bj [cI] [cI] (fun _=>true) (fun x=>(U8 x.1,()))
def Arj (k:Int):Tree (TCTs [cI]):=bif 1==k then .leaf (150,()) else bif 2==k then .leaf (500,()) else bif 3==k then .leaf (900,()) else .leaf (0,())
theorem Ark (k:Int):(Arj k).sat (fun y=>y=(U8 k,())):=by
 unfold Arj U8
 cases (1:Int)==k <;> cases (2:Int)==k <;> cases (3:Int)==k <;> exact rfl
theorem Bee:A6 Tryz.prog 75 B4x:=Bl (L6 (u:=4) Ak puOk_nil (fns_cons is_sFollow A0)) 6 (fun x=>Arj x.1) (fun x=>by kernel_rfl) fun x _ _=>Ark x.1
def A1v (k:Int):Bool:=decide (max k (W64 (0-k))>16777216)
abbrev B4y:PureT:=Bj [cI] [.b] (fun _=>true) (fun x=>(A1v x.1,()))
theorem Beg:A6 Tryz.prog 76 B4y:=Bl (Ap Ak puOk_nil (fns_cons is_sStrong A0)) 6 (fun x=>.leaf (A1v x.1,())) (fun x=>by kernel_rfl) fun _ _ _=>rfl
abbrev cBw:TC:=.st [cI,cPt,cI,cI]
abbrev plSk:List (Nat×PureT):=(75,B4x)::(76,B4y)::(59,P2)::(70,Kp)::(101,A4o)::plGm
theorem puSk:D3 Tryz.prog plSk:=puOk_cons is_sFollow.plain Bee (puOk_cons is_sStrong.plain Beg (puOk_cons is_Towards.plain A2b (puOk_cons is_tChk.plain Ml (puOk_cons is_Posts.plain Ag2 puGm))))
noncomputable def Biu:List (Nat×Func):=[(28,Tryz.f28),(72,Tryz.f72),(65,Tryz.f65),(67,Tryz.f67),(128,Tryz.f128),(73,Tryz.f73),(126,Tryz.f126),(127,Tryz.f127)]
noncomputable def Beh (Y:YK):Ctx:=Wq Tryz.prog plSk Biu [] [(74,Ak7 71 Y)]
theorem K6 {α:Type} {d:α} (l:List α) (i j:Nat) (x:α):As (Bf l i x) j d=x∨As (Bf l i x) j d=As l j d:=by
 rw [Bp,F8,F8,List.getD_eq_getElem?_getD,List.getD_eq_getElem?_getD,List.getElem?_set]
 by_cases h:i=j
 ·subst h
  rw [if_pos rfl]
  by_cases h2:i<l.length
  ·rw [if_pos h2];exact .inl rfl
  ·rw [if_neg h2,List.getElem?_eq_none (Nat.le_of_not_lt h2)];exact .inr rfl
 ·rw [if_neg h];exact .inr rfl
def smB (m:TCT B0):Bool:=B9 m.2.1.1 m.2.1.2.1
def SM (l:Au):Prop:=∀ j:Nat,smB (A9 l j)=true
theorem SM.set {l:Au} {i:Nat} {x:TCT B0} (h:SM l) (hx:smB x=true):SM (Bf l i x):=fun j=>by
 unfold A9
 rcases K6 (d:=Aq B0) l i j x with e | e
 ·rw [e];exact hx
 ·rw [e];exact h j
theorem B8s {a b:Bm} {k:Q3} (h:(Hm a b k).2.2.1=0):smB (Hm a b k).1=true∧smB (Hm a b k).2.1=true:=by
 unfold Hm at h ⊢
 cases h1:k.2.1 != 0 with
 | true=>rw [h1] at h;exact absurd h (bne_iff_ne.1 h1)
 | false =>
  rw [h1] at h
  simp only [cond_false] at h ⊢
  cases h2:B9 (W64 (a.mx-k.1.1)) (W64 (a.my-k.1.2.1)) with
  | false=>rw [h2] at h;cases h
  | true =>
   rw [h2] at h
   simp only [Bool.not_true,cond_false] at h ⊢
   cases h3:B9 (W64 (b.mx+k.1.1)) (W64 (b.my+k.1.2.1)) with
   | false=>rw [h3] at h;cases h
   | true=>exact ⟨h2,h3⟩
theorem A8i {l:List (TCT A3)} {re dr:Int} {i k:Nat} {s s':SS} (h:Fe l re dr i k s=some s') (hs:SM s.1):SM s'.1:=by
 unfold Fe at h
 cases h1:(C4 (bAt l s.1 i) (bAt l s.1 k) re dr).2.2.1==0 with
 | true =>
  rw [h1] at h
  simp only [cond_true,Option.some.injEq] at h
  subst h
  have b:=B8s (a:=bAt l s.1 i) (b:=bAt l s.1 k) (k:=Vp (bAt l s.1 i) (bAt l s.1 k) re dr) (beq_iff_eq.1 h1)
  exact SM.set (SM.set hs b.1) b.2
 | false =>
  rw [h1,cond_false] at h
  cases h2:(C4 (bAt l s.1 i) (bAt l s.1 k) re dr).2.2.1==4 with
  | true=>rw [h2] at h;simp at h
  | false=>rw [h2] at h;simp only [cond_false,Option.some.injEq] at h;subst h;exact hs
theorem Ad9 {l:List (TCT A3)} {re dr:Int} {i:Nat}:∀ (f k:Nat) (s s':SS),V.inR l re dr i f k s=some s'→SM s.1→SM s'.1
 | 0,k,s,s',h,hs=>by rw [V.inR,Option.some.injEq] at h;subst h;exact hs
 | f+1,k,s,s',h,hs=>by
  rw [V.inR] at h
  cases h1:Fe l re dr i k s with
  | none=>rw [h1] at h;simp at h
  | some s1 =>
   rw [h1,Option.bind_some] at h
   exact Ad9 f (k+1) s1 s' h (A8i h1 hs)
theorem Agx {l:List (TCT A3)} {re dr:Int}:∀ (f i:Nat) (s s':SS),I5 l re dr f i s=some s'→SM s.1→SM s'.1
 | 0,i,s,s',h,hs=>by rw [M1,Option.some.injEq] at h;subst h;exact hs
 | f+1,i,s,s',h,hs=>by
  rw [Jt] at h
  cases h1:V.inR l re dr i (l.length-(i+1)) (i+1) s with
  | none=>rw [h1] at h;simp at h
  | some s1 =>
   rw [h1,Option.bind_some] at h
   exact Agx f (i+1) s1 s' h (Ad9 _ _ _ _ h1 hs)
theorem Ada:∀ (l:List (TCT A3)) (s:Au),l.length=s.length→(l.zip s).all Qk=true→SM s
 | [],[],_,_=>fun _=>rfl
 | [],_::_,h,_=>by simp at h
 | _::_,[],h,_=>by simp at h
 | b::l,m::s,h,k=>by
  rw [List.zip_cons_cons,List.all_cons,Bool.and_eq_true] at k
  have h':l.length=s.length:=by simpa using h
  have ih:=Ada l s h' k.2
  intro j
  cases j with
  | zero =>
   have:=k.1
   unfold Qk Bm.ok Qo at this
   simp only [Bool.and_eq_true] at this
   exact this.2.2.1
  | succ j=>exact ih j
theorem A2y {l:List (TCT A3)} {s:Au} {re dr:Int} (h:(Bw l s re dr).2.2.1=0):SM (Bw l s re dr).1:=by
 unfold Bw at h ⊢
 cases h1:Mk l s != 0 with
 | true=>rw [h1,cond_true] at h;exact absurd h (bne_iff_ne.1 h1)
 | false =>
  rw [h1,cond_false] at h
  simp only [cond_false]
  cases h2:!Hw re dr with
  | true=>rw [h2] at h;cases h
  | false =>
   rw [h2,cond_false] at h
   simp only [cond_false]
   cases h3:I5 l re dr l.length 0 (s,[]) with
   | none=>rw [h3] at h;cases h
   | some s' =>
    obtain ⟨_,k2,k3⟩:=Adq (bne_eq_false_iff_eq.1 h1)
    have hz:SM s:=Ada l s k2 k3
    exact Agx _ _ _ _ h3 hz
theorem B8t {W:List Int} {M ms:Au} (hM:SM M) (hs:SM ms):SM (scV W M ms) :=
 B6 (n:=W.length) (Inv:=fun _ (s:Au)=>SM s) (fun i s s' _ h h2=>by
  cases h2
  exact SM.set h (hM i)) W.length 0 ms _ (by omega) hs (J7 (Ax (scE W M) 0 W.length ms))
theorem B8u {bl:List (TCT A3)} {c:TCT Cj} {t st w fl:Int} {n:Nat} {s:S2} {r:Au×Kns} (h:seF bl c t st w fl n s=.inl r) (hs:SM s.1):SM r.1:=by
 unfold seF at h
 cases he:(seS bl c w fl n s).2.2.1 != 0 with
 | true=>rw [he] at h;cases h
 | false =>
  rw [he] at h
  cases h
  exact B8t (A2y (bne_eq_false_iff_eq.1 he)) hs
theorem Bei {n d l:Int} (hd:1≤d) (h1 : -(l*d)≤n) (h2:n≤l*d) : -l≤DW n d∧DW n d≤l:=by
 unfold DW
 have e1:(-l)*(2*d) = -(2*(l*d)):=by grind
 have e2:(l+1)*(2*d)=2*(l*d)+2*d:=by grind
 refine ⟨Int.le_ediv_of_mul_le (by omega) (by omega),?_⟩
 have:(2*n+d) / (2*d)<l+1:=Int.ediv_lt_of_lt_mul (by omega) (by omega)
 omega
theorem B4z {x y d:Int} (h:(x*x+y*y)*4096<(d+1)*(d+1)) (hd:0≤d) : -d≤64*x∧64*x≤d:=by
 have hy:0≤y*y:=Jn y
 constructor
 ·by_cases k : -d≤64*x
  ·exact k
  ·have a:d+1 ≤ -(64*x):=by omega
   have b:=Int.mul_le_mul a a (by omega) (by omega)
   have e : -(64*x) * -(64*x)=(x*x)*4096:=by grind
   rw [e] at b
   omega
 ·by_cases k:64*x≤d
  ·exact k
  ·have a:d+1≤64*x:=by omega
   have b:=Int.mul_le_mul a a (by omega) (by omega)
   have e:64*x*(64*x)=(x*x)*4096:=by grind
   rw [e] at b
   omega
theorem B50 {x d l:Int} (hd:1≤d) (hl:0≤l) (h : -d≤64*x∧64*x≤d) : -l≤ToX x 0 d l∧ToX x 0 d l≤l:=by
 unfold ToX
 have e:64*l*(x-0)=l*(64*x):=by grind
 have a:=Int.mul_le_mul_of_nonneg_left h.1 hl
 have b:=Int.mul_le_mul_of_nonneg_left h.2 hl
 rw [Int.mul_neg] at a
 rw [e,Int.zero_add]
 exact Bei hd a b
theorem Arl {x y l:Int} (hf:fpt x y=true) (hne:(x==0&&(y==0&&true))=false) (hl:1≤l∧l≤2097152):(TwR x y 0 0 l).2=0∧(-2097152≤(TwR x y 0 0 l).1.1∧(TwR x y 0 0 l).1.1≤2097152)∧(-2097152≤(TwR x y 0 0 l).1.2∧(TwR x y 0 0 l).1.2≤2097152):=by
 have h0:fpt 0 0=true:=by decide
 rw [Bool.and_true] at hne
 have hne2:¬ (x=0∧y=0):=by
  intro hh;rw [hh.1,hh.2] at hne;cases hne
 have hd:=Atm hf h0 hne2
 have hs:=Ahx hf h0
 obtain ⟨r1,r2,r3⟩:=Ip (sq x y 0 0*4096) (by omega)
 have hdd:dTo x y 0 0=rt (sq x y 0 0*4096):=rfl
 rw [← hdd] at r1 r2 r3
 have hsq:sq x y 0 0=x*x+y*y:=by unfold sq;grind
 rw [hsq] at r3
 have a:=B4z r3 r1
 have b:=B4z (x:=y) (y:=x) (d:=dTo x y 0 0) (by rw [Int.add_comm (y*y)];exact r3) r1
 have c1:=B50 hd.1 (show 0≤l by omega) a
 have c2:=B50 hd.1 (show 0≤l by omega) b
 have ho:Bd l 0 4194304=false:=by
  unfold Bd
  rw [decide_eq_false (show ¬ l<0 by omega),decide_eq_false (show ¬ 4194304<l by omega)];rfl
 have hfp:fpt (ToX x 0 (dTo x y 0 0) l) (ToX y 0 (dTo x y 0 0) l)=true:=by
  unfold fpt
  exact decide_eq_true (by omega)
 have e:TwR x y 0 0 l=((ToX x 0 (dTo x y 0 0) l,ToX y 0 (dTo x y 0 0) l),0):=by
  unfold TwR
  rw [hf,h0,ho,hne,hfp];rfl
 rw [e]
 exact ⟨rfl,⟨by show -2097152≤ToX x 0 _ l;omega,by show ToX x 0 _ l≤2097152;omega⟩,⟨by show -2097152≤ToX y 0 _ l;omega,by show ToX y 0 _ l≤2097152;omega⟩⟩
end St
end V
end Go.Proofs.YtlangijnealfjaaGreat
namespace Go.Proofs.YtlangijnealfjaaGreat
open Go.RowKit
namespace V
namespace St
def bwT {β:Type} (n:Int) (w:TCT cBw) (bad go:Tree β):Tree β:=bif decide (w.1<0) then bad else bif decide (w.1≥n) then bad else bif Hv w.2.1.1 w.2.1.2.1 != 0 then bad else bif w.2.1.1==0&&(w.2.1.2.1==0&&true) then bad else bif decide (w.2.2.1<1) then bad else bif decide (w.2.2.1>2097152) then bad else bif decide (w.2.2.2.1<0) then bad else bif decide (w.2.2.2.1>4) then bad else go
def bwB (n:Int) (w:TCT cBw):Bool:=decide (w.1<0)||(decide (w.1≥n)||(!fpt w.2.1.1 w.2.1.2.1||((w.2.1.1==0&&(w.2.1.2.1==0&&true))||(decide (w.2.2.1<1)||(decide (w.2.2.1>2097152)||(decide (w.2.2.2.1<0)||decide (w.2.2.2.1>4)))))))
theorem B8v {β:Type} {n:Int} {w:TCT cBw} {bad go:Tree β}:bwT n w bad go=bif bwB n w then bad else go:=by
 unfold bwT bwB
 rw [Ag4]
 cases decide (w.1<0) <;> cases decide (w.1≥n) <;> cases fpt w.2.1.1 w.2.1.2.1 <;> cases w.2.1.1==0&&(w.2.1.2.1==0&&true) <;> cases decide (w.2.2.1<1) <;> cases decide (w.2.2.1>2097152) <;> cases decide (w.2.2.2.1<0) <;> cases decide (w.2.2.2.1>4) <;> rfl
structure BwOk (n:Int) (w:TCT cBw):Prop where
 b:0≤w.1∧w.1<n
 f:fpt w.2.1.1 w.2.1.2.1=true
 z:(w.2.1.1==0&&(w.2.1.2.1==0&&true))=false
 p:1≤w.2.2.1∧w.2.2.1≤2097152
 k:0≤w.2.2.2.1∧w.2.2.2.1≤4
theorem Arm {n:Int} {w:TCT cBw} (h:bwB n w=false):BwOk n w:=by
 unfold bwB at h
 rw [Bool.or_eq_false_iff,Bool.or_eq_false_iff,Bool.or_eq_false_iff,Bool.or_eq_false_iff,Bool.or_eq_false_iff,Bool.or_eq_false_iff,Bool.or_eq_false_iff] at h
 obtain ⟨h1,h2,h3,h4,h5,h6,h7,h8⟩:=h
 have a1:=of_decide_eq_false h1
 have a2:=of_decide_eq_false h2
 have a5:=of_decide_eq_false h5
 have a6:=of_decide_eq_false h6
 have a7:=of_decide_eq_false h7
 have a8:=of_decide_eq_false h8
 exact ⟨⟨Int.not_lt.1 a1,Int.not_le.1 a2⟩,by simpa using h3,h4,⟨Int.not_lt.1 a5,Int.not_lt.1 a6⟩,⟨Int.not_lt.1 a7,Int.not_lt.1 a8⟩⟩
def twP (w:TCT cBw):TCT cPt:=((TwR w.2.1.1 w.2.1.2.1 0 0 w.2.2.1).1.1,(TwR w.2.1.1 w.2.1.2.1 0 0 w.2.2.1).1.2,())
def twE (w:TCT cBw):Int:=(TwR w.2.1.1 w.2.1.2.1 0 0 w.2.2.1).2
def He (ms:Au) (b:Int) (v:TCT cPt):Au:=Bf ms (Int.toNat b) ((A9 ms (Int.toNat b)).1,(v.1,v.2.1,()),(A9 ms (Int.toNat b)).2.2.1,())
def mX (ms:Au) (b d:Int):Au:=Bf ms (Int.toNat b) ((A9 ms (Int.toNat b)).1,(W64 ((A9 ms (Int.toNat b)).2.1.1+d),(A9 ms (Int.toNat b)).2.1.2.1,()),(A9 ms (Int.toNat b)).2.2.1,())
def mY (ms:Au) (b d:Int):Au:=Bf ms (Int.toNat b) ((A9 ms (Int.toNat b)).1,((A9 ms (Int.toNat b)).2.1.1,W64 ((A9 ms (Int.toNat b)).2.1.2.1+d),()),(A9 ms (Int.toNat b)).2.2.1,())
def fwD (m k:Int):Int:=W64 (Int.tdiv (W64 (m*U8 k)) 1000)
def chB {β:Type} (ms:Au) (b:Int) (k:Tree β):Tree β:=bif decide (Int.toNat b<ms.length) then k else .fail
theorem O0 {β:Type} {ms:Au} {b:Int} {k:Tree β} {n:Nat} (h:0≤b∧b<(n:Int)) (hl:ms.length=n):chB ms b k=k:=by
 unfold chB
 rw [decide_eq_true (show Int.toNat b<ms.length by omega)];rfl
theorem Adb {ms:Au} {b d:Int}:(mX ms b d).length=ms.length:=C0 _ _ _
theorem B8w {ms:Au} {b d:Int}:(mY ms b d).length=ms.length:=C0 _ _ _
theorem A8j {ms:Au} {b:Int} {v:TCT cPt}:(He ms b v).length=ms.length:=C0 _ _ _
def A8k (ms:Au) (os:List Bool) (b fl:Int) (ks:Kns):TkR:=((ms,os,b,fl,0,()),ks,0,())
def skM (ms:Au) (w:TCT cBw):Au:=mY (mX ms w.1 (fwD (twP w).1 w.2.2.2.1)) w.1 (fwD (twP w).2.1 w.2.2.2.1)
def A56 (ms:Au) (b:Int):Bool:=A1v (A9 ms (Int.toNat b)).2.1.1||A1v (A9 ms (Int.toNat b)).2.1.2.1
def skF (os:List Bool) (w:TCT cBw):(Au×Kns)⊕Int→TkR
 | .inr e=>Jm e
 | .inl (ms,ks)=>bif decide ((ks.length:Int)>0) then bif A56 (skM ms w) w.1 then Jm 4 else A8k (skM ms w) os w.1 0 ks else A8k ms os w.1 0 ks
def skG (g:TCT cGr) (s:TCT cSt) (w:TCT cBw):TkR:=bif w.2.2.2.1==4 then A8k (He (msT s) w.1 (twP w)) (osT s) w.1 8 [] else skF (osT s) w (seF (A2 g) g.2.2.1 0 0 w.1 0 (A2 g).length (He (msT s) w.1 (twP w),osT s,[]))
def skV (g:TCT cGr) (s:TCT cSt) (w:TCT cBw):TkR:=bif K5 g s != 0 then Jm (K5 g s) else bif bwB ((A2 g).length:Int) w then Jm 2 else bif !D5 s||As (osT s) (Int.toNat w.1) (Aq .b) then Jm 10 else skG g s w
abbrev Ak9:PureT:=Bj [cGr,cSt,cBw] [cSt,.sl cKn,cI] (fun x=>decide ((x.1.1.1.size:Int)≤B7 .i64)) (fun x=>A8g (skV x.1 x.2.1 x.2.2.1))
def gS (g:TCT cGr) (s:TCT cSt) (ms:Au) (b:Int):GB:=((g.1.1,g.1.2.1,g.1.2.2.1,g.1.2.2.2.1,g.1.2.2.2.2.1,g.1.2.2.2.2.2.1.1.1,g.1.2.2.2.2.2.1.1.2.1,g.1.2.2.2.2.2.1.2.1,g.1.2.2.2.2.2.2.1,g.1.2.2.2.2.2.2.2.1,g.1.2.2.2.2.2.2.2.2.1,g.2.1,g.2.2.1.1,g.2.2.1.2.1,I3 g.1,ms,([]++s.2.1),b,0,0,0,((),(),()),()),([],()),())
def lfT (r:TkR):TTR:=.leaf r
def B51 (os:List Bool) (w:TCT cBw) (ks:Kns) (ms:Au):TTR:=chB ms w.1 (bif A1v (A9 ms (Int.toNat w.1)).2.1.1 then lfT (Jm 4) else chB ms w.1 (bif A1v (A9 ms (Int.toNat w.1)).2.1.2.1 then lfT (Jm 4) else lfT (A8k ms os w.1 0 ks)))
def Arn (os:List Bool) (w:TCT cBw) (ms:Au) (ks:Kns):TTR:=bif decide ((ks.length:Int)>0) then chB ms w.1 (chB ms w.1 (chB (mX ms w.1 (fwD (twP w).1 w.2.2.2.1)) w.1 (chB (mX ms w.1 (fwD (twP w).1 w.2.2.2.1)) w.1 (B51 os w ks (skM ms w))))) else lfT (A8k ms os w.1 0 ks)
def Aro (Y:YK) (g:TCT cGr) (s:TCT cSt) (w:TCT cBw):TTR:=bif w.2.2.2.1==4 then
  bif twE w != 0 then bif twE w != 0 then lfT (Jm (twE w)) else lfT (A8k (msT s) (osT s) w.1 8 []) else inN ([]++s.1:Au).length w.1 (chB ([]++s.1) w.1 (lfT (A8k (He ([]++s.1) w.1 (twP w)) ([]++s.2.1) w.1 8 [])))
 else bif twE w != 0 then bif twE w != 0 then lfT (Jm (twE w)) else lfT (A8k (msT s) (osT s) w.1 0 []) else inN ([]++s.1:Au).length w.1 (chB ([]++s.1) w.1 (thY (Y (gS g s (He ([]++s.1) w.1 (twP w)) w.1)) zM (fun e=>bif e != 0 then lfT (Jm e) else .fail) fun r=>Arn ([]++s.2.1) w r.1 r.2))
def Azq (Y:YK) (g:TCT cGr) (s:TCT cSt) (w:TCT cBw):TTR:=szT g.1 (bif K5 g s != 0 then lfT (Jm (K5 g s)) else bwT ((A2 g).length:Int) w (lfT (Jm 2)) (bif !D5 s then lfT (Jm 10) else inN (osT s).length w.1 (bif As (osT s) (Int.toNat w.1) (Aq .b) then lfT (Jm 10) else szT g.1 (neT (msT s) (acT (msT s) 48 (neT (osT s) (acT (osT s) 1 (Aro Y g s w))))))))
theorem Azr (Y:YK) (x:TCTs [cGr,cSt,cBw]):D1 (Beh Y) 8 (.fn 28) (E7 [cGr,cSt,cBw] x) Ce 0 (Hx Tryz.prog [cSt,.sl cKn,cI])=Azq Y x.1 x.2.1 x.2.2.1:=by kernel_rfl
theorem Azs:CtxOk (Beh Qh):=Hr Ak puSk (fns_cons is_sStrike (fns_cons is_sStrike2 (fns_cons is_newGame (fns_cons is_sTry (fns_cons is_sTry1 (fns_cons is_must (fns_cons is_clMot (fns_cons is_clBool A0)))))))) Ly (fun p hp=>by
 rw [List.mem_singleton] at hp;subst hp;exact ⟨is_gsettle.plain,by rw [Ak7,A50];exact Az6⟩)
end St
end V
end Go.Proofs.YtlangijnealfjaaGreat
namespace Go.Proofs.YtlangijnealfjaaGreat
open Go.RowKit
namespace V
namespace St
theorem Agy {bl:List (TCT A3)} {c:TCT Cj} {t st w fl:Int} {n:Nat} {s:S2} {r:Au×Kns} (h:seF bl c t st w fl n s=.inl r):r.1.length=s.1.length:=by
 unfold seF at h
 cases he:(seS bl c w fl n s).2.2.1 != 0 with
 | true=>rw [he] at h;cases h
 | false =>
  rw [he] at h
  cases h
  exact Agq
theorem Azt {g:TCT cGr} {s:TCT cSt} {ms:Au} {b:Int} (hs:(g.1.1.size:Int)≤B7 .i64) (h:StaOk g s) (hm:ms.length=(A2 g).length):Qh (gS g s ms b)=some (seF (A2 g) g.2.2.1 0 0 b 0 (A2 g).length (ms,osT s,[])):=by
 unfold Qh
 rw [show Pw (gS g s ms b)=true by
  unfold Pw
  simp only [Bool.and_eq_true,decide_eq_true_eq]
  refine ⟨Et.2 ⟨hs,hm,?_,h.n8⟩,by show (0:Nat)≤900000;omega⟩
  show ([]++s.2.1:List Bool).length=(A2 g).length
  rw [List.nil_append];exact h.o]
 rfl
theorem Arp {os:List Bool} {w:TCT cBw} {ms:Au} {ks:Kns} {n:Nat} (hb:0≤w.1∧w.1<(n:Int)) (hm:ms.length=n):(Arn os w ms ks).sat (fun y=>y=A8g (skF os w (.inl (ms,ks)))):=by
 unfold Arn skF
 simp only
 cases decide ((ks.length:Int)>0) with
 | false=>exact rfl
 | true =>
  simp only [cond_true]
  rw [O0 hb hm,O0 hb hm,O0 hb (Adb.trans hm),O0 hb (Adb.trans hm)]
  unfold B51
  have hl:(skM ms w).length=n:=by unfold skM;rw [B8w,Adb];exact hm
  rw [O0 hb hl,O0 hb hl]
  unfold A56
  cases A1v (A9 (skM ms w) (Int.toNat w.1)).2.1.1 with
  | true=>exact rfl
  | false=>cases A1v (A9 (skM ms w) (Int.toNat w.1)).2.1.2.1 <;> exact rfl
theorem Arq {g:TCT cGr} {s:TCT cSt} {w:TCT cBw} (hs:(g.1.1.size:Int)≤B7 .i64) (h:StaOk g s) (hb:BwOk ((A2 g).length:Int) w):(Aro Qh g s w).sat (fun y=>y=A8g (skG g s w)):=by
 have tw:=Arl hb.f hb.z hb.p
 have he:(twE w != 0)=false:=bne_eq_false_iff_eq.2 tw.1
 unfold Aro skG
 rw [he]
 simp only [cond_false]
 have hms:([]++s.1:Au).length=(A2 g).length:=by rw [List.nil_append];exact h.m
 have hin:0≤w.1∧w.1<(([]++s.1:Au).length:Int):=⟨hb.b.1,by rw [hms];exact hb.b.2⟩
 cases w.2.2.2.1==4 with
 | true=>simp only [cond_true];rw [F3 hin,O0 hb.b hms];exact rfl
 | false =>
  simp only [cond_false]
  rw [F3 hin,O0 hb.b hms]
  have hy:=Azt (b:=w.1) hs h (A8j (b:=w.1) (v:=twP w).trans hms)
  have e:He ([]++s.1) w.1 (twP w)=He (msT s) w.1 (twP w):=rfl
  rw [e] at hy ⊢
  cases hf:seF (A2 g) g.2.2.1 0 0 w.1 0 (A2 g).length (He (msT s) w.1 (twP w),osT s,[]) with
  | inr x=>rw [hf] at hy;rw [Yh hy,show (x != 0)=true from bne_iff_ne.2 (Yl hf)];exact rfl
  | inl r =>
   rw [hf] at hy
   rw [Yg hy]
   obtain ⟨ms,ks⟩:=r
   have hl:=Agy hf
   exact Arp hb.b (hl.trans (A8j.trans h.m))
theorem Azu {g:TCT cGr} {s:TCT cSt} {w:TCT cBw} (hs:(g.1.1.size:Int)≤B7 .i64):(Azq Qh g s w).sat (fun y=>y=A8g (skV g s w)):=by
 unfold Azq skV
 rw [Ei hs,Ei hs,B8v]
 cases h1:K5 g s != 0 with
 | true=>exact rfl
 | false =>
  have h:=Ad8 (bne_eq_false_iff_eq.1 h1)
  have hn1:=h.n1
  have hn8:=h.n8
  have hm:=h.m
  have ho:=h.o
  simp only [cond_false]
  cases h2:bwB ((A2 g).length:Int) w with
  | true=>exact rfl
  | false =>
   have hb:=Arm h2
   simp only [cond_false]
   cases D5 s with
   | false=>exact rfl
   | true =>
    simp only [Bool.not_true,cond_false,Bool.false_or]
    rw [F3 ⟨hb.b.1,by rw [ho];exact hb.b.2⟩]
    cases As (osT s) (Int.toNat w.1) (Aq .b) with
    | true=>exact rfl
    | false =>
     simp only [cond_false]
     rw [A53 (by omega),A54 (by omega) (by decide),A53 (by omega),A54 (by omega) (by decide)]
     exact Arq hs h hb
theorem Aka:A6 Tryz.prog 28 Ak9:=Bl Azs 8 (fun x=>Azq Qh x.1 x.2.1 x.2.2.1) (Azr Qh) fun _ hok _=>Azu (of_decide_eq_true hok)
end St
end V
end Go.Proofs.YtlangijnealfjaaGreat
