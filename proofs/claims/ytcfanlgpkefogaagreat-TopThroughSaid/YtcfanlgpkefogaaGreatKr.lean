import Derived.Test.YtcfanlgpkefogaaGreatCq
import Derived.Test.YtcfanlgpkefogaaGreatAg
import Derived.Test.YtcfanlgpkefogaaGreatCA
import Derived.Test.YtcfanlgpkefogaaGreatAz
import Derived.Test.YtcfanlgpkefogaaGreatDw
namespace Go.Proofs.YtcfanlgpkefogaaGreat
open Go.RowKit
namespace V
namespace St
theorem is_sRuns:FnIs Tryz.prog (31,Tryz.f31):=⟨Tryz.func31,by kernel_rfl,by kernel_rfl⟩
theorem is_sStand:FnIs Tryz.prog (83,Tryz.f83):=⟨Tryz.func83,by kernel_rfl,by kernel_rfl⟩
def stn (u v gp wr r:Int):Int:=bif decide (max v (W64 (0-v))≥W64 (Int.tdiv gp 2)) then 0 else bif decide (W64 (u-r)≥W64 (0-wr)) then 3 else bif decide (W64 (u+r)>wr) then 2 else bif decide (W64 (u+r)>W64 (0-wr)) then 1 else 0
def stT (u v gp wr r:Int):TEr:=bif decide (max v (W64 (0-v))≥W64 (Int.tdiv gp 2)) then .leaf (0,()) else bif decide (W64 (u-r)≥W64 (0-wr)) then .leaf (3,()) else bif decide (W64 (u+r)>wr) then .leaf (2,()) else bif decide (W64 (u+r)>W64 (0-wr)) then .leaf (1,()) else .leaf (0,())
theorem Bax {u v gp wr r:Int}:stT u v gp wr r=.leaf (stn u v gp wr r,()):=by
 unfold stT stn
 cases decide (max v (W64 (0-v))≥W64 (Int.tdiv gp 2)) with
 | true=>rfl
 | false =>
  cases decide (W64 (u-r)≥W64 (0-wr)) with
  | true=>rfl
  | false =>
   cases decide (W64 (u+r)>wr) with
   | true=>rfl
   | false=>cases decide (W64 (u+r)>W64 (0-wr)) <;> rfl
def uH (h:TCT Bt) (p:TCT cPt):Int:=bif h.2.2.2.2.1 then W64 (p.1-h.1) else W64 (p.2.1-h.2.1)
def vH (h:TCT Bt) (p:TCT cPt):Int:=bif h.2.2.2.2.1 then W64 (p.2.1-h.2.1) else W64 (p.1-h.1)
def fwd (f:Bool) (u:Int):Int:=bif !f then W64 (0-u) else u
def Im (h:TCT Bt) (f:Bool) (p:TCT cPt) (r:Int):Int:=stn (fwd f (uH h p)) (vH h p) h.2.2.1 h.2.2.2.1 r
abbrev Atm:PureT:=Bz [Bt,.b,cPt,cI] [cI] (fun _=>true) (fun x=>(Im x.1 x.2.1 x.2.2.1 x.2.2.2.1,()))
def Atn (h:TCT Bt) (f:Bool) (p:TCT cPt) (r:Int):TEr:=bif h.2.2.2.2.1 then bif !f then stT (W64 (0-W64 (p.1-h.1))) (W64 (p.2.1-h.2.1)) h.2.2.1 h.2.2.2.1 r else stT (W64 (p.1-h.1)) (W64 (p.2.1-h.2.1)) h.2.2.1 h.2.2.2.1 r
 else bif !f then stT (W64 (0-W64 (p.2.1-h.2.1))) (W64 (p.1-h.1)) h.2.2.1 h.2.2.2.1 r else stT (W64 (p.2.1-h.2.1)) (W64 (p.1-h.1)) h.2.2.1 h.2.2.2.1 r
theorem Ato {h:TCT Bt} {f:Bool} {p:TCT cPt} {r:Int}:(Atn h f p r).sat (fun y=>y=(Im h f p r,())):=by
 unfold Atn Im fwd uH vH
 simp only [Bax]
 cases h.2.2.2.2.1 <;> cases f <;> exact rfl
noncomputable def B6h:Code:=(Ak (bodyOf Tryz.f31)).getD 0 .skip
abbrev kHo:List SK:=[.d cI,.d cI,.d cI,.d cI,.d .b]
def plRu:List (Nat×PureT):=(75,Oo)::(81,Aq0)::(83,Atm)::[]
noncomputable def Bge:Ctx:=ctx Tryz.prog plRu []
abbrev Trk:Type:=List (TCT cPt)
def Aef:Lay:={ keys:=[2,3,13,16,89,90,91],ks:=[.d .b,.d cI,.p 12 0 0 0,.d cI,.d (.sl cPt),.d cI,.d cI],bs:=[(12,93,kHo)],n:=117,nx:=1000,marks:=[] }
def Bkl:Lay:={ keys:=[],ks:=[],bs:=[],n:=117,nx:=1000,marks:=[] }
def Bgf:Lay:={ keys:=[10,11],ks:=[.d .b,.d cI],bs:=[],n:=117,nx:=1000,marks:=[] }
def A9o:XE→Lay:=fun e=>match e with | .ret=>Bgf | _=>Bkl
abbrev TRu:=Tree (Aef.T⊕A0 A9o)
def Aii (h:TCT Bt) (f:Bool) (r:Int) (l:Trk) (n i was:Int):Aef.T:=((f,r,(),was,l,n,i,()),(h,()))
def Atp:A0 A9o:=⟨.ret,((true,0,()),())⟩
def B6i:A0 A9o:=⟨.exit 1,((),())⟩
def Zk (l:Trk) (i:Nat):TCT cPt:=B7 l i (B9 cPt)
def Aij (h:TCT Bt) (f:Bool) (r:Int) (l:Trk) (n i:Int):TRu:=.leaf (.inl (Aii h f r l n (W64 (i+1)) (Im h f (Zk l (Int.toNat i)) r)))
def Zl (h:TCT Bt) (f:Bool) (r:Int) (l:Trk) (n i was:Int):TRu:=bif decide (i<n) then inN l.length i (bif decide (i>0) then bif Im h f (Zk l (Int.toNat i)) r==3 then bif was==1 then .leaf (.inr Atp) else bif was==2 then .leaf (.inr Atp) else Aij h f r l n i else Aij h f r l n i else Aij h f r l n i) else .leaf (.inr B6i)
def A9p (g:Aef.T):TRu:=Zl g.2.1 g.1.1 g.1.2.1 g.1.2.2.2.2.1 g.1.2.2.2.2.2.1 g.1.2.2.2.2.2.2.1 g.1.2.2.2.1
def Atq (g:Aef.T):Nat:=Int.toNat g.1.2.2.2.2.2.1+1
end St
end V
end Go.Proofs.YtcfanlgpkefogaaGreat
namespace Go.Proofs.YtcfanlgpkefogaaGreat
open Go.RowKit
namespace V
namespace St
def B1s (now was:Int):Bool:=now==3&&(was==1||was==2)
def ruE (h:TCT Bt) (f:Bool) (r:Int) (l:Trk) (i:Nat) (was:Int):Int⊕Unit:=bif decide ((i:Int)>0)&&B1s (Im h f (Zk l i) r) was then .inr () else .inl (Im h f (Zk l i) r)
def Atr:Int⊕Unit→A0 A9o
 | .inl _=>B6i
 | .inr _=>Atp
theorem Bgg {h:TCT Bt} {f:Bool} {r:Int} {l:Trk} (hn:(l.length:Int)≤Bo .i64):iter A9p (l.length+1) (Aii h f r l l.length 0 0)=some (Atr (B8 (ruE h f r l) 0 l.length 0)):=by
 refine Hk l.length (fun i was=>Aii h f r l l.length i was) (ruE h f r l) Atr (fun _ _=>True) (fun i s hi _=>?_) (fun _ _ _ _ _ _=>trivial) (fun s _=>?_) l.length 0 0 (by omega) trivial
 ·show (Zl h f r l l.length i s).run=_
  unfold Zl Aij ruE B1s
  rw [decide_eq_true (show (i:Int)<(l.length:Int) by omega),E2 (by omega),show Int.toNat (i:Int)=i from rfl,Ec hi hn]
  generalize Im h f (Zk l i) r=now
  cases decide ((i:Int)>0) <;> cases now==3 <;> cases s==1 <;> cases s==2 <;> rfl
 ·show (Zl h f r l l.length l.length s).run=_
  unfold Zl
  rw [decide_eq_false (show ¬ (l.length:Int)<(l.length:Int) by omega)]
  rfl
def Ats (h:TCT Bt) (f:Bool) (r:Int) (l:Trk):Bool:=match B8 (ruE h f r l) 0 l.length 0 with
 | .inl _=>false
 | .inr _=>true
abbrev RuR:Type:=TCTs [.b,cI]
abbrev Xb:=Tree RuR
def Mj (l:TCT A9) (n:Int):TCT Bt:=B7 (Be l) (Int.toNat n) (B9 Bt)
def A3j (t:Trk):TCT cPt:=Zk t (Int.toNat (W64 ((t.length:Int)-1)))
def A9q (n nh r m:Int):Bool:=decide (n<0)||(decide (n≥nh)||(decide (r<1)||(decide (r>16384)||m==0)))
def Aeg (l:TCT A9) (n:Int) (f:Bool) (r:Int) (t:Trk):RuR:=bif Co l != 0 then (false,Co l,()) else bif A9q n (Be l).length r t.length then (false,3,()) else bif decide ((t.length:Int)>4001) then (false,6,()) else bif t.any (Jm ()) then (false,2,()) else
 bif decide (W64 (fwd f (uH (Mj l n) (A3j t))-r)<W64 (0-(Mj l n).2.2.2.1)) then (false,0,()) else (Ats (Mj l n) f r t,0,())
def B6j (r:RuR):RuR:=(r.1,r.2.1,())
abbrev Bay:PureT:=Bz [A9,cI,.b,cI,.sl cPt] [.b,cI] (fun x=>decide ((x.1.1.size:Int)≤Bo .i64)) (fun x=>B6j (Aeg x.1 x.2.1 x.2.2.1 x.2.2.2.1 x.2.2.2.2.1))
def A60 (n nh r m:Int) (bad many go:Xb):Xb:=bif decide (n<0) then bad else bif decide (n≥nh) then bad else bif decide (r<1) then bad else bif decide (r>16384) then bad else bif m==0 then bad else bif decide (m>4001) then many else go
theorem Aeh {n nh r m:Int} {bad many go:Xb}:A60 n nh r m bad many go=bif A9q n nh r m then bad else bif decide (m>4001) then many else go:=by
 unfold A60 A9q
 cases decide (n<0) <;> cases decide (n≥nh) <;> cases decide (r<1) <;> cases decide (r>16384) <;> cases m==0 <;> rfl
def Va (u r wr:Int) (no go:Xb):Xb:=bif decide (W64 (u-r)<W64 (0-wr)) then no else go
def Baz (h:TCT Bt) (f:Bool) (p:TCT cPt) (r:Int) (no go:Xb):Xb:=bif h.2.2.2.2.1 then bif !f then Va (W64 (0-W64 (p.1-h.1))) r h.2.2.2.1 no go else Va (W64 (p.1-h.1)) r h.2.2.2.1 no go
 else bif !f then Va (W64 (0-W64 (p.2.1-h.2.1))) r h.2.2.2.1 no go else Va (W64 (p.2.1-h.2.1)) r h.2.2.2.1 no go
theorem B1t {h:TCT Bt} {f:Bool} {p:TCT cPt} {r:Int} {no go:Xb}:Baz h f p r no go=Va (fwd f (uH h p)) r h.2.2.2.1 no go:=by
 unfold Baz fwd uH
 cases h.2.2.2.2.1 <;> cases f <;> rfl
def A3k (b:Bool) (e:Int):Xb:=.leaf (b,e,())
def Bkm (y:Option (A0 A9o)):Xb:=bif isE .ret y then .leaf ((D4 .ret y).1.1,(D4 .ret y).1.2.1,()) else bif isE (.exit 1) y then A3k false 0 else .fail
def B6k (l:TCT A9) (n:Int) (f:Bool) (r:Int) (t:Trk):Xb:=inN (Be l).length n (inN t.length (W64 ((t.length:Int)-1)) (Baz (Mj l n) f (A3j t) r (A3k false 0) (Bkm (iter A9p (Int.toNat (t.length:Int)+1) (Aii (Mj l n) f r t t.length 0 0)))))
def B1u (l:TCT A9) (n:Int) (f:Bool) (r:Int) (t:Trk):Xb:=szT l (bif Co l != 0 then A3k false (Co l) else A60 n (Be l).length r t.length (A3k false 3) (A3k false 6) (bif t.any (Jm ()) then A3k false 2 else B6k l n f r t))
noncomputable def Bgh:Ctx:=Ie Tryz.prog plRu [(31,Tryz.f31)] [((31,20),Bd Aef A9o (E5 [.ret,.exit 1] A9p Atq))]
theorem B1v (x:TCTs [A9,cI,.b,cI,.sl cPt]):E1 Bgh 8 (.fn 31) (Eg [A9,cI,.b,cI,.sl cPt] x) Ck 0 (If Tryz.prog [.b,cI])=B1u x.1 x.2.1 x.2.2.1 x.2.2.2.1 x.2.2.2.2.1:=by kernel_rfl
theorem Bb0 {n nh r m:Int} (h:A9q n nh r m=false):0≤n∧n<nh∧m≠0:=by
 unfold A9q at h
 simp only [Bool.or_eq_false_iff,decide_eq_false_iff_not,beq_eq_false_iff_ne] at h
 exact ⟨by omega,by omega,h.2.2.2.2⟩
theorem B1w {m:Nat} (h:(m:Int)≠0) (hm:(m:Int)≤Bo .i64):0≤W64 ((m:Int)-1)∧W64 ((m:Int)-1)<(m:Int):=by
 have:(m:Int)≤9223372036854775807:=hm
 rw [Bi (n:=(m:Int)-1) (by omega) (by omega)]
 omega
end St
end V
end Go.Proofs.YtcfanlgpkefogaaGreat
namespace Go.Proofs.YtcfanlgpkefogaaGreat
open Go.RowKit
namespace V
open St
theorem is_lPasses:FnIs Tryz.prog (27,Tryz.f27):=⟨Tryz.func27,by kernel_rfl,by kernel_rfl⟩
theorem is_lStand:FnIs Tryz.prog (32,Tryz.f32):=⟨Tryz.func32,by kernel_rfl,by kernel_rfl⟩
theorem is_lfind:FnIs Tryz.prog (76,Tryz.f76):=⟨Tryz.func76,by kernel_rfl,by kernel_rfl⟩
theorem is_lvBall:FnIs Tryz.prog (77,Tryz.f77):=⟨Tryz.func77,by kernel_rfl,by kernel_rfl⟩
def Mm (l:TCT A9) (n:Int):Int:=bif Co l != 0 then Co l else bif decide (n<0) then 3 else bif decide (n≥((Be l).length:Int)) then 3 else 0
def A3s (l:TCT A9) (n r:Int):Int:=bif Mm l n != 0 then Mm l n else bif !St.inR r 1 16384 then 3 else 0
def Aj9 (l:TCT A9) (n r:Int):Bool:=bif A3s l n r==0 then decide ((Mj l n).2.2.1≥W64 (2*r)) else false
abbrev Am2:PureT:=Bz [A9,cI,cI] [.b,cI] (fun x=>decide ((x.1.1.size:Int)≤Bo .i64)) (fun x=>(Aj9 x.1 x.2.1 x.2.2.1,A3s x.1 x.2.1 x.2.2.1,()))
def plPas:List (Nat×PureT):=[(75,Oo),(105,St.s_inR)]
theorem puPas:De Tryz.prog plPas:=puOk_cons is_lCheck.plain Mf (puOk_cons St.is_between2.plain St.q_between2 puOk_nil)
def fdT {β:Type} (l:TCT A9) (n:Int) (k0:Tree β) (ke:Int→Tree β) (k:TCT Bt→Tree β):Tree β:=szT l (bif Co l != 0 then bif Co l != 0 then ke (Co l) else k0 else bif decide (n<0) then ke 3 else bif decide (n≥((Be l).length:Int)) then ke 3 else bif decide (0≤n∧n<((Be l).length:Int)) then k (Mj l n) else .fail)
theorem Av4 {β:Type} {l:TCT A9} {n:Int} {k0:Tree β} {ke:Int→Tree β} {k:TCT Bt→Tree β} (h:(l.1.size:Int)≤Bo .i64):fdT l n k0 ke k=bif Mm l n != 0 then ke (Mm l n) else k (Mj l n):=by
 unfold fdT Mm
 rw [Dh h]
 cases h1:Co l != 0 with
 | true=>simp only [cond_true,h1]
 | false =>
  simp only [cond_false]
  cases h2:decide (n<0) with
  | true=>rfl
  | false =>
   cases h3:decide (n≥((Be l).length:Int)) with
   | true=>rfl
   | false =>
    have a:=of_decide_eq_false h2
    have b:=of_decide_eq_false h3
    rw [decide_eq_true (show 0≤n∧n<((Be l).length:Int) by omega)]
    rfl
def psT (h:TCT Bt) (r:Int):Tree (TCTs [.b,cI]):=bif !St.inR r 1 16384 then .leaf (false,3,()) else .leaf (decide (h.2.2.1≥W64 (2*r)),0,())
theorem Am3:A5 Tryz.prog 27 Am2:=C5 (B6 Aw puPas (fns_cons is_lPasses (fns_cons is_lfind (fns_cons is_lvBall A1)))) 6 (fun x=>fdT x.1 x.2.1 (psT (0,0,0,0,false,()) x.2.2.1) (fun e=>.leaf (false,e,())) (fun h=>psT h x.2.2.1)) (fun x=>by kernel_rfl) fun x hok _=>by
 rw [Av4 (of_decide_eq_true hok)]
 unfold Aj9 A3s psT
 cases h1:Mm x.1 x.2.1 != 0 with
 | true =>
  simp only [cond_true]
  refine As ?_
  have:(Mm x.1 x.2.1==0)=false:=by simpa [bne] using h1
  rw [this];rfl
 | false =>
  simp only [cond_false]
  cases h2:!St.inR x.2.2.1 1 16384 <;> exact As rfl
def Am4 (u v gp wr r:Int):Tree (TCTs [cI,cI]):=bif decide (max v (W64 (0-v))≥W64 (Int.tdiv gp 2)) then .leaf (0,0,()) else bif decide (W64 (u-r)≥W64 (0-wr)) then .leaf (3,0,()) else bif decide (W64 (u+r)>wr) then .leaf (2,0,()) else bif decide (W64 (u+r)>W64 (0-wr)) then .leaf (1,0,()) else .leaf (0,0,())
theorem Xr {u v gp wr r:Int}:Am4 u v gp wr r=.leaf (stn u v gp wr r,0,()):=by
 unfold Am4 stn
 cases decide (max v (W64 (0-v))≥W64 (Int.tdiv gp 2)) with
 | true=>rfl
 | false =>
  cases decide (W64 (u-r)≥W64 (0-wr)) with
  | true=>rfl
  | false =>
   cases decide (W64 (u+r)>wr) with
   | true=>rfl
   | false=>cases decide (W64 (u+r)>W64 (0-wr)) <;> rfl
def sdT (h:TCT Bt) (f:Bool) (p:TCT cPt) (r:Int):Tree (TCTs [cI,cI]):=bif Hy p.1 p.2.1 != 0 then .leaf (0,2,()) else bif !St.inR r 1 16384 then .leaf (0,3,()) else
 bif h.2.2.2.2.1 then bif !f then Am4 (W64 (0-W64 (p.1-h.1))) (W64 (p.2.1-h.2.1)) h.2.2.1 h.2.2.2.1 r else Am4 (W64 (p.1-h.1)) (W64 (p.2.1-h.2.1)) h.2.2.1 h.2.2.2.1 r else
 bif !f then Am4 (W64 (0-W64 (p.2.1-h.2.1))) (W64 (p.1-h.1)) h.2.2.1 h.2.2.2.1 r else Am4 (W64 (p.2.1-h.2.1)) (W64 (p.1-h.1)) h.2.2.1 h.2.2.2.1 r
def Am5 (l:TCT A9) (n:Int) (p:TCT cPt) (r:Int):Int:=bif Mm l n != 0 then Mm l n else bif Hy p.1 p.2.1 != 0 then 2 else bif !St.inR r 1 16384 then 3 else 0
def B31 (l:TCT A9) (n:Int) (f:Bool) (p:TCT cPt) (r:Int):Int:=bif Am5 l n p r==0 then Im (Mj l n) f p r else 0
abbrev Av5:PureT:=Bz [A9,cI,.b,cPt,cI] [cI,cI] (fun x=>decide ((x.1.1.size:Int)≤Bo .i64)) (fun x=>(B31 x.1 x.2.1 x.2.2.1 x.2.2.2.1 x.2.2.2.2.1,Am5 x.1 x.2.1 x.2.2.2.1 x.2.2.2.2.1,()))
theorem Av6:A5 Tryz.prog 32 Av5:=C5 (B6 Aw (puOk_cons Ir.plain Lm puPas) (fns_cons is_lStand (fns_cons is_lfind (fns_cons is_lvBall (fns_cons is_turned A1))))) 6 (fun x=>fdT x.1 x.2.1 (sdT (0,0,0,0,false,()) x.2.2.1 x.2.2.2.1 x.2.2.2.2.1) (fun e=>.leaf (0,e,())) (fun h=>sdT h x.2.2.1 x.2.2.2.1 x.2.2.2.2.1)) (fun x=>by kernel_rfl) fun x hok _=>by
 rw [Av4 (of_decide_eq_true hok)]
 unfold B31 Am5 sdT
 cases h1:Mm x.1 x.2.1 != 0 with
 | true =>
  simp only [cond_true]
  refine As ?_
  have:(Mm x.1 x.2.1==0)=false:=by simpa [bne] using h1
  rw [this];rfl
 | false =>
  simp only [cond_false]
  cases h2:Hy x.2.2.2.1.1 x.2.2.2.1.2.1 != 0 with
  | true=>exact As rfl
  | false =>
   simp only [cond_false]
   cases h3:!St.inR x.2.2.2.2.1 1 16384 with
   | true=>exact As rfl
   | false =>
    simp only [cond_false]
    rw [Xr,Xr,Xr,Xr]
    unfold Im uH vH fwd
    cases (Mj x.1 x.2.1).2.2.2.2.1 <;> cases x.2.2.1 <;> exact As rfl
end V
end Go.Proofs.YtcfanlgpkefogaaGreat
namespace Go.Proofs.YtcfanlgpkefogaaGreat
open Go.RowKit
namespace V
namespace St
theorem Am6:A5 Tryz.prog 83 Atm:=C5 (B6 Aw puOk_nil (fns_cons is_sStand A1)) 7 (fun x=>Atn x.1 x.2.1 x.2.2.1 x.2.2.2.1) (fun x=>by kernel_rfl) fun x _ _=>Ato
theorem puRuP:De Tryz.prog plRu:=puOk_cons is_lCheck.plain Mf (puOk_cons is_cfPt.plain B8v (puOk_cons is_sStand.plain Am6 puOk_nil))
theorem Am7:CtxOk Bge:=B6 Aw puRuP A1
theorem Bhh:Bc Tryz.prog 31 B6h (Bd Aef A9o (E5 [.ret,.exit 1] A9p Atq)):=Bv Am7 7 _ Aef A9o (fun e=>by cases e <;> exact Nat.le_refl _) [.ret,.exit 1] A9p Atq (fun g=>by kernel_rfl)
theorem Avq:CtxOk Bgh:=D6 Aw puRuP (fns_cons is_sRuns A1) (Bj (Jd (ds:=[B6h]) (by kernel_rfl) ⟨Hh (k:=20) (by kernel_rfl) rfl Bhh,trivial⟩) Gk)
theorem q_RunsP:A5 Tryz.prog 31 Bay:=C5 Avq 8 (fun x=>B1u x.1 x.2.1 x.2.2.1 x.2.2.2.1 x.2.2.2.2.1) B1v fun x hok hw=>by
 have hs:(x.1.1.size:Int)≤Bo .i64:=of_decide_eq_true hok
 have hn:((x.2.2.2.2.1:Trk).length:Int)≤Bo .i64:=G3 hw.2.2.2.2.1
 obtain ⟨l,n,f,r,t,u⟩:=x
 show (B1u l n f r t).sat fun y=>y=B6j (Aeg l n f r t)
 simp only at hs hn
 unfold B1u Aeg
 rw [Dh hs,Aeh]
 cases Co l != 0 with
 | true=>exact rfl
 | false =>
  cases ha:A9q n (Be l).length r (t:Trk).length with
  | true=>exact rfl
  | false =>
   have a:=Bb0 ha
   cases decide (((t:Trk).length:Int)>4001) with
   | true=>exact rfl
   | false =>
    cases (t:Trk).any (Jm ()) with
    | true=>exact rfl
    | false =>
     unfold B6k
     simp only [cond_false]
     rw [E2 ⟨a.1,a.2.1⟩,E2 (B1w a.2.2 hn),B1t]
     unfold Va
     cases decide (W64 (fwd f (uH (Mj l n) (A3j t))-r)<W64 (0-(Mj l n).2.2.2.1)) with
     | true=>exact rfl
     | false =>
      simp only [cond_false]
      rw [show Int.toNat ((t:Trk).length:Int)=(t:Trk).length from rfl,Bgg hn]
      unfold Ats
      cases B8 (ruE (Mj l n) f r t) 0 (t:Trk).length 0 <;> exact rfl
end St
end V
end Go.Proofs.YtcfanlgpkefogaaGreat
namespace Go.Proofs.YtcfanlgpkefogaaGreat
open Go.RowKit
namespace V
namespace Tp
open St
theorem is_TopThrough:FnIs Tryz.prog (7,Tryz.f7):=⟨Tryz.func7,by kernel_rfl,by kernel_rfl⟩
abbrev cs_topThrough:List TC:=[.i .u16,.i .u16,.i .u16,.b,.b]
abbrev A63:Type:=TCT cGr→TCT cSt→Int→Int→TrR
abbrev Aet:Type:=TCT cGr→List (TCT cPt)→TCT cSt×Int
abbrev A64:Type:=TCT cGr→TCT cSt→Bool×Int
abbrev Xd:Type:=TCT A9→Int→Bool→Int→List (TCT cPt)→Bool×Int
abbrev Xe:Type:=TCT A9→Int→Bool→TCT cPt→Int→Int×Int
abbrev Aeu:Type:=TCT A9→Int→Int→Bool×Int
abbrev szL (l:TCT A9):Bool:=decide ((l.1.size:Int)≤Bo .i64)
abbrev B75 (T:A63):PureT:=Bz [cGr,cSt,cI,cI] [.sl cPt,cI] (fun x=>Acu x.1) (fun x=>Au9 (T x.1 x.2.1 x.2.2.1 x.2.2.2.1))
abbrev B76 (L:Aet):PureT:=Bz [cGr,.sl cPt] [cSt,cI] (fun x=>Acu x.1) (fun x=>(St.etaS (L x.1 x.2.1).1,(L x.1 x.2.1).2,()))
abbrev B77 (S:A64):PureT:=Bz [cGr,cSt] [.b,cI] (fun x=>Acu x.1) (fun x=>((S x.1 x.2.1).1,(S x.1 x.2.1).2,()))
abbrev B78 (R:Xd):PureT:=Bz [A9,cI,.b,cI,.sl cPt] [.b,cI] (fun x=>szL x.1) (fun x=>((R x.1 x.2.1 x.2.2.1 x.2.2.2.1 x.2.2.2.2.1).1,(R x.1 x.2.1 x.2.2.1 x.2.2.2.1 x.2.2.2.2.1).2,()))
abbrev B79 (D:Xe):PureT:=Bz [A9,cI,.b,cPt,cI] [cI,cI] (fun x=>szL x.1) (fun x=>((D x.1 x.2.1 x.2.2.1 x.2.2.2.1 x.2.2.2.2.1).1,(D x.1 x.2.1 x.2.2.1 x.2.2.2.1 x.2.2.2.2.1).2,()))
abbrev B7a (A:Aeu):PureT:=Bz [A9,cI,cI] [.b,cI] (fun x=>szL x.1) (fun x=>((A x.1 x.2.1 x.2.2.1).1,(A x.1 x.2.1 x.2.2.1).2,()))
def A2h:A63:=St.TrackV
def A65:Aet:=fun g p=>((Gj g p).1,(Gj g p).2.1)
def Xf:A64:=fun g s=>(bif Db g s != 0 then false else C2 s,Db g s)
def Rm:Xd:=fun l n f r t=>((Aeg l n f r t).1,(Aeg l n f r t).2.1)
def Rn:Xe:=fun l n f p r=>(B31 l n f p r,Am5 l n p r)
def A66:Aeu:=fun l n r=>(Aj9 l n r,A3s l n r)
theorem Bh1:A5 Tryz.prog 29 (B75 A2h):=Aub
theorem Bh2:A5 Tryz.prog 28 (B76 A65):=B67
theorem Bh3:A5 Tryz.prog 30 (B77 Xf):=B0w
theorem Bh4:A5 Tryz.prog 31 (B78 Rm):=St.q_RunsP
theorem Bh5:A5 Tryz.prog 32 (B79 Rn):=Av6
theorem Bh6:A5 Tryz.prog 27 (B7a A66):=Am3
noncomputable def plTr5 (A:Aeu) (L:Aet) (F:FSk) (P:FPl) (T:A63) (S:A64) (R:Xd) (D:Xe):List (Nat×PureT):=(27,B7a A)::(28,B76 L)::(11,B5n F)::(21,Bdz P)::(29,B75 T)::(30,B77 S)::(31,B78 R)::(32,B79 D)::(17,Pu)::[]
theorem puTr5:De Tryz.prog (plTr5 A66 A65 skV PlayV A2h Xf Rm Rn):=puOk_cons is_lPasses.plain Bh6 (puOk_cons is_sLie.plain Bh2 (puOk_cons is_sStrike.plain A3m (puOk_cons is_sPlay.plain B2b (puOk_cons is_sTrack.plain Bh1 (puOk_cons is_sStill.plain Bh3 (puOk_cons is_sRuns.plain Bh4 (puOk_cons is_lStand.plain Bh5 (puOk_cons is_works04.plain Akz puOk_nil))))))))
end Tp
end V
end Go.Proofs.YtcfanlgpkefogaaGreat
