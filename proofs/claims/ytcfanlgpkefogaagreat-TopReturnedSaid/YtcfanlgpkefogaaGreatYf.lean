import Derived.Test.YtcfanlgpkefogaaGreatAg
namespace Go.Proofs.YtcfanlgpkefogaaGreat
open Go.RowKit
namespace V
open St
theorem is_put:FnIs Tryz.prog (34,Tryz.f34):=⟨Tryz.func34,by kernel_rfl,by kernel_rfl⟩
theorem is_put1:FnIs Tryz.prog (90,Tryz.f90):=⟨Tryz.func90,by kernel_rfl,by kernel_rfl⟩
theorem is_spotL:FnIs Tryz.prog (85,Tryz.f85):=⟨Tryz.func85,by kernel_rfl,by kernel_rfl⟩
theorem is_SpotL:FnIs Tryz.prog (33,Tryz.f33):=⟨Tryz.func33,by kernel_rfl,by kernel_rfl⟩
theorem is_newLine:FnIs Tryz.prog (86,Tryz.f86):=⟨Tryz.func86,by kernel_rfl,by kernel_rfl⟩
theorem is_numL:FnIs Tryz.prog (87,Tryz.f87):=⟨Tryz.func87,by kernel_rfl,by kernel_rfl⟩
theorem is_NumL:FnIs Tryz.prog (35,Tryz.f35):=⟨Tryz.func35,by kernel_rfl,by kernel_rfl⟩
theorem is_OnL:FnIs Tryz.prog (36,Tryz.f36):=⟨Tryz.func36,by kernel_rfl,by kernel_rfl⟩
theorem is_placesL:FnIs Tryz.prog (129,Tryz.f129):=⟨Tryz.func129,by kernel_rfl,by kernel_rfl⟩
theorem is_atL:FnIs Tryz.prog (130,Tryz.f130):=⟨Tryz.func130,by kernel_rfl,by kernel_rfl⟩
theorem is_fromL:FnIs Tryz.prog (88,Tryz.f88):=⟨Tryz.func88,by kernel_rfl,by kernel_rfl⟩
theorem is_fromL1:FnIs Tryz.prog (128,Tryz.f128):=⟨Tryz.func128,by kernel_rfl,by kernel_rfl⟩
def A2b (p:TCT cPt) (r:Int) (d:TCT A2):Bool:=decide (W64 (W64 (W64 (p.1-d.1.1)*W64 (p.1-d.1.1))+W64 (W64 (p.2.1-d.1.2.1)*W64 (p.2.1-d.1.2.1)))<W64 (W64 (r+d.2.1)*W64 (r+d.2.1)))
abbrev Ay9:PureT:=Jk [.d A2,.r cPt 0,.r cI 0] [.b] (fun _=>true) (fun x=>(A2b x.2.1 x.2.2.1 x.1,()))
theorem Bda:A7 Tryz.prog 90 Ay9:=Mo (B5 Aw puOk_nil (fns_cons is_put1 A0)) 4 (fun x=>.leaf (A2b x.2.1 x.2.2.1 x.1,())) (fun x=>by kernel_rfl) fun _ _ _=>Ak rfl
def plFr:List (Nat×PureT):=[(90,Ay9)]
theorem puFr:Db Tryz.prog plFr:=puOk_cons is_put1.plain Bda puOk_nil
abbrev is_ixFr:=is_ixDsc
abbrev is_cfFr:=is_cfDsc
abbrev R9:List SK:=[.r cPt 0,.r cI 0]
def Kw (k:SKTs R9) (x:TCT (A2)):Bool:=A2b k.1 k.2.1 x
noncomputable def Ale:Code:=(As (bodyOf Tryz.f131)).getD 0 .skip
def Sk:Lay:={ keys:=[0,1,7,8],ks:=[.d (.sl (A2)),.f 90 [] R9,.d cI,.d cI],bs:=[],n:=19,nx:=1000,marks:=[] }
def B5z:Lay:={ keys:=[4],ks:=[.d cI],bs:=[],n:=19,nx:=1000,marks:=[] }
def B60:Lay:={ keys:=[],ks:=[],bs:=[],n:=19,nx:=1000,marks:=[] }
def Pk:XE→Lay
 | .ret=>B5z
 | _=>B60
def Alf (k:SKTs R9) (l:List (TCT (A2))) (n i:Int):Sk.T:=((l,((),k),n,i,()),())
def A7j (i:Int):A1 Pk:=⟨.ret,((i,()),())⟩
def A7k:A1 Pk:=⟨.exit 0,((),())⟩
def Qf (k:SKTs R9) (l:List (TCT (A2))) (n:Int) (x:TCT (A2)) (i:Int):Tree (Sk.T⊕A1 Pk):=bif Kw k x then .leaf (.inr (A7j i)) else .leaf (.inl (Alf k l n (W64 (i+1))))
def B61 (k:SKTs R9) (l:List (TCT (A2))) (n i:Int):Tree (Sk.T⊕A1 Pk) :=
 bif decide (i<n) then bif decide (0≤i∧i<(l.length:Int)) then Qf k l n (Bc l i.toNat (B7 (A2))) i else .fail else .leaf (.inr A7k)
def A2c (g:Sk.T):Tree (A1 Pk) :=
 .br (Jt g.1.2.2.1 g.1.2.2.2.1 g.1.1) (.br (g.1.1.any (Kw g.1.2.1.2)) (.leaf (A7j (g.1.1.findIdx (Kw g.1.2.1.2)))) (.leaf A7k)) .fail
theorem Bdb:Bb Tryz.prog 131 Ale (B8 Sk Pk A2c):=by
 refine G1 (X:=ctx Tryz.prog plFr []) (B5 Aw puFr A0) 7 131 (fun _=>none) (fun _ _ f h=>by simp at h) Sk Pk (fun e=>by cases e <;> exact Nat.le_refl _) A2c (fun g=>B61 g.1.2.1.2 g.1.1 g.1.2.2.1 g.1.2.2.2.1) (fun g=>by kernel_rfl) ?_
 rintro ⟨⟨l,⟨⟨⟩,k⟩,n,i,⟨⟩⟩,⟨⟩⟩ R hw hf
 obtain ⟨hf,h0⟩:=hf
 by_cases hc:n=(l.length:Int)∧i=0
 ·obtain ⟨rfl,rfl⟩:=hc
  have hf:=hf (decide_eq_true ⟨rfl,rfl⟩)
  refine Aow l (B7 (A2)) (G9 hw.1.1) (fun n i _=>Alf k l n i) (fun x i (_:Unit)=>bif Kw k x then .inr (A7j i) else .inl ()) (fun _=>A7k) (fun _=>True) (fun x i _=>Qf k l l.length x i) (fun i _=>rfl) ?_ () trivial ?_
  ·intro i _ hi Q _ _ hw1 hQ
   show (Qf k l l.length l[i] i).sat Q
   unfold Qf
   rw [hw1]
   cases hp:Kw k l[i] with
   | true=>rw [hp] at hQ;exact hQ
   | false=>rw [hp] at hQ;exact hQ trivial
  ·rw [Nx (Kw k) (fun i=>A7j i) A7k l 0,Nat.zero_add]
   cases ha:l.any (Kw k) with
   | true=>exact hf.1 ha
   | false=>exact hf.2 ha
 ·exact (h0 (decide_eq_false hc)).elim
abbrev Bdc:PureT:=Jk [.d (.sl (A2)),.f 90 [] R9] [cI] (fun _=>true) (fun x=>(bif x.1.any (Kw x.2.1.2) then (x.1.findIdx (Kw x.2.1.2):Int) else -1,()))
noncomputable def Bdd:Ctx:=I7 Tryz.prog plFr [(131,Tryz.f131)] [((131,keyOf Ale),B8 Sk Pk A2c)]
theorem Aoo:CtxOk Bdd:=Cp Aw puFr (fns_cons is_ixFr A0) (Cc rfl (by kernel_rfl) Bdb)
def Aya (k:SKTs R9) (l:List (TCT (A2))):Tree (Int×Unit):=bif Jt (l.length:Int) 0 l then bif l.any (Kw k) then .leaf ((l.findIdx (Kw k):Int),()) else .leaf (-1,()) else .fail
theorem Aop (k:SKTs R9) (l:List (TCT (A2))):(Aya k l).sat (fun y=>y=(bif l.any (Kw k) then (l.findIdx (Kw k):Int) else -1,())):=by
 refine Mk (decide_eq_true ⟨rfl,rfl⟩) ?_
 cases l.any (Kw k) <;> exact rfl
theorem Bde:A7 Tryz.prog 131 Bdc:=Mo Aoo 8 (fun x=>Aya x.2.1.2 x.1) (fun x=>by kernel_rfl) fun x _ _=>Aop _ _
abbrev Ayb:PureT:=Jk [.d (.sl (A2)),.f 90 [] R9] [.b] (fun _=>true) (fun x=>(x.1.any (Kw x.2.1.2),()))
theorem Aoq (k:SKTs R9) (l:List (TCT (A2))):(Tree.leaf (decide ((bif l.any (Kw k) then (l.findIdx (Kw k):Int) else -1)≥0),()):Tree (Bool×Unit)).sat (fun y=>y=(l.any (Kw k),())):=by
 rw [Qg];exact rfl
theorem Bdf:A7 Tryz.prog 89 Ayb:=Mo (B5 Aw (puOk_cons is_ixFr.plain Bde puOk_nil) (fns_cons is_cfFr A0)) 8 (fun x=>.leaf (decide ((bif x.1.any (Kw x.2.1.2) then (x.1.findIdx (Kw x.2.1.2):Int) else -1)≥0),())) (fun x=>by kernel_rfl) fun x _ _=>Aoq _ _
def Fz (l:TCT A5) (p:TCT cPt):TCT cPt:=(min (max p.1 l.2.2.2.1) (W64 (l.2.1-l.2.2.2.1)),min (max p.2.1 l.2.2.2.1) (W64 (l.2.2.1-l.2.2.2.1)),())
abbrev A7l:PureT:=Bv [A5,cPt] [cPt] (fun _=>true) (fun x=>(Fz x.1 x.2.1,()))
theorem Alg:A7 Tryz.prog 85 A7l:=C0 (B5 Aw puOk_nil (fns_cons is_spotL A0)) 4 (fun x=>.leaf (Fz x.1 x.2.1,())) (fun x=>by kernel_rfl) fun _ _ _=>Ak rfl
abbrev Il:TC:=.st [cI,cI,cI]
def G8 (l:TCT A5):TCT Il:=(l.2.2.2.1,W64 (l.2.1-W64 (2*l.2.2.2.1)),W64 (l.2.2.1-W64 (2*l.2.2.2.1)),())
abbrev We:PureT:=Bv [A5] [Il] (fun _=>true) (fun x=>(G8 x.1,()))
theorem A4w:A7 Tryz.prog 86 We:=C0 (B5 Aw puOk_nil (fns_cons is_newLine A0)) 4 (fun x=>.leaf (G8 x.1,())) (fun x=>by kernel_rfl) fun _ _ _=>Ak rfl
def plcF (y:TCT Il):Int:=W64 (2*W64 (y.2.1+y.2.2.1))
abbrev A4x:PureT:=Bv [Il] [cI] (fun _=>true) (fun x=>(plcF x.1,()))
theorem Aor:A7 Tryz.prog 129 A4x:=C0 (B5 Aw puOk_nil (fns_cons is_placesL A0)) 4 (fun x=>.leaf (plcF x.1,())) (fun x=>by kernel_rfl) fun _ _ _=>Ak rfl
end V
end Go.Proofs.YtcfanlgpkefogaaGreat
namespace Go.Proofs.YtcfanlgpkefogaaGreat
open Go.RowKit
namespace V
open St
def Kx (y:TCT Il) (p:TCT cPt):Int:=bif !St.inR (W64 (p.1-y.1)) 0 y.2.1 then -1 else bif !St.inR (W64 (p.2.1-y.1)) 0 y.2.2.1 then -1 else bif W64 (p.2.1-y.1)==0 then W64 (p.1-y.1) else bif W64 (p.1-y.1)==y.2.1 then W64 (y.2.1+W64 (p.2.1-y.1)) else
 bif W64 (p.2.1-y.1)==y.2.2.1 then W64 (W64 (W64 (y.2.1+y.2.2.1)+y.2.1)-W64 (p.1-y.1)) else bif W64 (p.1-y.1)==0 then W64 (W64 (W64 (W64 (2*y.2.1)+y.2.2.1)+y.2.2.1)-W64 (p.2.1-y.1)) else -1
abbrev Agp:PureT:=Bv [Il,cPt] [cI] (fun _=>true) (fun x=>(Kx x.1 x.2.1,()))
def Agq (y:TCT Il) (p:TCT cPt):Tree (TCTs [cI]):=bif !St.inR (W64 (p.1-y.1)) 0 y.2.1 then .leaf (-1,()) else bif !St.inR (W64 (p.2.1-y.1)) 0 y.2.2.1 then .leaf (-1,()) else bif W64 (p.2.1-y.1)==0 then .leaf (W64 (p.1-y.1),()) else bif W64 (p.1-y.1)==y.2.1 then .leaf (W64 (y.2.1+W64 (p.2.1-y.1)),()) else
 bif W64 (p.2.1-y.1)==y.2.2.1 then .leaf (W64 (W64 (W64 (y.2.1+y.2.2.1)+y.2.1)-W64 (p.1-y.1)),()) else bif W64 (p.1-y.1)==0 then .leaf (W64 (W64 (W64 (W64 (2*y.2.1)+y.2.2.1)+y.2.2.1)-W64 (p.2.1-y.1)),()) else .leaf (-1,())
theorem Aos (y:TCT Il) (p:TCT cPt):(Agq y p).sat (fun r=>r=(Kx y p,())):=by
 unfold Agq Kx
 cases !St.inR (W64 (p.1-y.1)) 0 y.2.1 with
 | true=>exact rfl
 | false =>
  cases !St.inR (W64 (p.2.1-y.1)) 0 y.2.2.1 with
  | true=>exact rfl
  | false=>cases W64 (p.2.1-y.1)==0 <;> cases W64 (p.1-y.1)==y.2.1 <;> cases W64 (p.2.1-y.1)==y.2.2.1 <;> cases W64 (p.1-y.1)==0 <;> exact rfl
theorem Ayc:A7 Tryz.prog 87 Agp:=C0 (B5 Aw (puOk_cons St.is_between2.plain St.q_between2 puOk_nil) (fns_cons is_numL A0)) 6 (fun x=>Agq x.1 x.2.1) (fun x=>by kernel_rfl) fun x _ _=>Aos x.1 x.2.1
def O6 (y:TCT Il):Int:=W64 (y.2.1+y.2.2.1)
def at1 (y:TCT Il) (n:Int):TCT cPt:=(W64 (y.1+min n y.2.1),W64 (y.1+max (W64 (n-y.2.1)) 0),())
def at2 (y:TCT Il) (n:Int):TCT cPt:=(W64 (y.1+W64 (y.2.1-min (W64 (n-O6 y)) y.2.1)),W64 (y.1+W64 (y.2.2.1-max (W64 (W64 (n-O6 y)-y.2.1)) 0)),())
def atF (y:TCT Il) (n:Int):TCT cPt:=bif decide (n≥O6 y) then at2 y n else at1 y n
abbrev B8c:PureT:=Bv [Il,cI] [cPt] (fun _=>true) (fun x=>(((atF x.1 x.2.1).1,(atF x.1 x.2.1).2.1,()),()))
def Ayd (y:TCT Il) (n:Int):Tree (TCTs [cPt]):=bif decide (n≥O6 y) then bif decide (n≥O6 y) then .leaf (at2 y n,()) else .leaf ((W64 (y.1+min (W64 (n-O6 y)) y.2.1),W64 (y.1+max (W64 (W64 (n-O6 y)-y.2.1)) 0),()),()) else
 bif decide (n≥O6 y) then .leaf ((W64 (y.1+W64 (y.2.1-min n y.2.1)),W64 (y.1+W64 (y.2.2.1-max (W64 (n-y.2.1)) 0)),()),()) else .leaf (at1 y n,())
theorem Aye (y:TCT Il) (n:Int):(Ayd y n).sat (fun r=>r=(((atF y n).1,(atF y n).2.1,()),())):=by
 unfold Ayd atF
 cases decide (n≥O6 y) <;> exact rfl
theorem Bi9:A7 Tryz.prog 130 B8c:=C0 (B5 Aw puOk_nil (fns_cons is_atL A0)) 6 (fun x=>Ayd x.1 x.2.1) (fun x=>by kernel_rfl) fun x _ _=>Aye x.1 x.2.1
def plOn:List (Nat×PureT):=(75,Qq)::(43,J9)::(105,s_inR)::(85,A7l)::(86,We)::(87,Agp)::[]
theorem puOn:Db Tryz.prog plOn:=puOk_cons is_lCheck.plain M7 (puOk_cons Hj.plain K0 (puOk_cons St.is_between2.plain St.q_between2 (puOk_cons is_spotL.plain Alg (puOk_cons is_newLine.plain A4w (puOk_cons is_numL.plain Ayc puOk_nil)))))
def ckT {β:Type} (l:TCT A5) (p:TCT cPt) (k:Tree β) (ke:Int→Tree β):Tree β:=szT l (bif Ck l != 0 then bif Ck l != 0 then ke (Ck l) else k else bif Gu p.1 p.2.1 != 0 then ke 2 else k)
theorem Agr {β:Type} {l:TCT A5} {p:TCT cPt} {k:Tree β} {ke:Int→Tree β} (hs:(l.1.size:Int)≤Bl .i64):ckT l p k ke=bif Gc l p != 0 then ke (Gc l p) else k:=by
 unfold ckT Gc
 rw [Dg hs]
 cases h:Ck l != 0 with
 | true=>simp only [cond_true,h]
 | false =>
  rw [Mz]
  cases fpt p.1 p.2.1 <;> rfl
def onV (l:TCT A5) (p:TCT cPt):Bool:=bif Gc l p==0 then onB l p else false
abbrev Bia:PureT:=Bv [A5,cPt] [.b,cI] (fun x=>decide ((x.1.1.size:Int)≤Bl .i64)) (fun x=>(onV x.1 x.2.1,Gc x.1 x.2.1,()))
def Bib (l:TCT A5) (p:TCT cPt):Tree (TCTs [.b,cI]):=bif St.inR p.1 0 l.2.1 then .leaf (St.inR p.2.1 0 l.2.2.1,0,()) else .leaf (false,0,())
theorem A7m {e:Int} (h:(e != 0)=true):(e==0)=false:=by simpa [bne] using h
theorem Bdg {e:Int} (h:(e != 0)=false):e=0:=bne_eq_false_iff_eq.1 h
theorem Bic:A7 Tryz.prog 36 Bia:=C0 (B5 Aw puOn (fns_cons is_OnL (fns_cons is_lchk (fns_cons is_lon A0)))) 8 (fun x=>ckT x.1 x.2.1 (Bib x.1 x.2.1) (fun e=>.leaf (false,e,()))) (fun x=>by kernel_rfl) fun x hok _=>by
 rw [Agr (of_decide_eq_true hok)]
 unfold onV
 cases h:Gc x.1 x.2.1 != 0 with
 | true=>rw [A7m h];exact Ak rfl
 | false =>
  rw [Bdg h]
  unfold Bib onB
  cases St.inR x.2.1.1 0 x.1.2.1 <;> exact Ak rfl
def spB (l:TCT A5) (p:TCT cPt):Bool:=!((Fz l p).1==p.1&&((Fz l p).2.1==p.2.1&&true))
def spV (l:TCT A5) (p:TCT cPt):TCTs [cPt,.b,cI]:=bif Gc l p != 0 then ((0,0,()),false,Gc l p,()) else (Fz l p,spB l p,0,())
def B8d (r:TCTs [cPt,.b,cI]):TCTs [cPt,.b,cI]:=((r.1.1,r.1.2.1,()),r.2.1,r.2.2.1,())
abbrev B62:PureT:=Bv [A5,cPt] [cPt,.b,cI] (fun x=>decide ((x.1.1.size:Int)≤Bl .i64)) (fun x=>B8d (spV x.1 x.2.1))
theorem B63:A7 Tryz.prog 33 B62:=C0 (B5 Aw puOn (fns_cons is_SpotL (fns_cons is_lchk A0))) 8 (fun x=>ckT x.1 x.2.1 (.leaf (Fz x.1 x.2.1,spB x.1 x.2.1,0,())) (fun e=>.leaf ((0,0,()),false,e,()))) (fun x=>by kernel_rfl) fun x hok _=>by
 rw [Agr (of_decide_eq_true hok)]
 unfold spV
 cases h:Gc x.1 x.2.1 != 0 <;> exact Ak rfl
def nuE (l:TCT A5) (p:TCT cPt):Int:=bif Gc l p != 0 then Gc l p else bif decide (Kx (G8 l) p<0) then 5 else 0
def nuV (l:TCT A5) (p:TCT cPt):Int:=bif nuE l p==0 then Kx (G8 l) p else 0
abbrev Bdh:PureT:=Bv [A5,cPt] [cI,cI] (fun x=>decide ((x.1.1.size:Int)≤Bl .i64)) (fun x=>(nuV x.1 x.2.1,nuE x.1 x.2.1,()))
theorem Bdi:A7 Tryz.prog 35 Bdh:=C0 (B5 Aw puOn (fns_cons is_NumL (fns_cons is_lchk A0))) 8 (fun x=>ckT x.1 x.2.1 (bif decide (Kx (G8 x.1) x.2.1<0) then .leaf (0,5,()) else .leaf (Kx (G8 x.1) x.2.1,0,())) (fun e=>.leaf (0,e,()))) (fun x=>by kernel_rfl) fun x hok _=>by
 rw [Agr (of_decide_eq_true hok)]
 unfold nuV nuE
 cases h:Gc x.1 x.2.1 != 0 with
 | true=>simp only [cond_true];rw [A7m h];exact Ak rfl
 | false =>
  simp only [cond_false]
  cases decide (Kx (G8 x.1) x.2.1<0) <;> exact Ak rfl
end V
end Go.Proofs.YtcfanlgpkefogaaGreat
namespace Go.Proofs.YtcfanlgpkefogaaGreat
open Go.RowKit
namespace V
open St
def plPut:List (Nat×PureT):=(75,Qq)::(43,J9)::(70,Y9)::(85,A7l)::(86,We)::(87,Agp)::(129,A4x)::(130,B8c)::(89,Ayb)::[]
theorem puPut:Db Tryz.prog plPut:=puOk_cons is_lCheck.plain M7 (puOk_cons Hj.plain K0 (puOk_cons is_ckBall.plain A81 (puOk_cons is_spotL.plain Alg (puOk_cons is_newLine.plain A4w (puOk_cons is_numL.plain Ayc (puOk_cons is_placesL.plain Aor (puOk_cons is_atL.plain Bi9 (puOk_cons is_cfDsc.plain Bdf puOk_nil))))))))
noncomputable def Ayf:List (Nat×Func):=[(34,Tryz.f34),(57,Tryz.f57),(88,Tryz.f88),(128,Tryz.f128)]
theorem Acs:∀ p ∈ Ayf,FnIs Tryz.prog p:=fns_cons is_put (fns_cons is_lchk (fns_cons is_fromL (fns_cons is_fromL1 A0)))
noncomputable def Ags:Code:=(As (bodyOf Tryz.f128)).getD 0 .skip
end V
end Go.Proofs.YtcfanlgpkefogaaGreat
namespace Go.Proofs.YtcfanlgpkefogaaGreat
open Go.RowKit
namespace V
open St
abbrev Agt:PureT:=Up [A5,cPt,cI,.sl A2] [.sl cI,cI] (fun x=>decide ((x.1.1.size:Int)≤Bl .i64)) (fun x=>(Rb x.1 x.2.1 x.2.1 x.2.2.1 x.2.2.2.1,Ke x.1 x.2.1 x.2.1 x.2.2.1 x.2.2.2.1,()))
def Bid:List BK:=[(3,31,kP6),(4,31,kP6),(5,2,[.d cI])]
def A4y:Lay:={ keys:=[14,15,37,38,39],ks:=[.f 71 [] [.p 3 0 0 0,.p 4 0 0 0,.p 5 0 0 0],.o 3 cI,.d (.sl A2),.d cI,.d cI],bs:=Bid,n:=53,nx:=1000,marks:=[] }
def Agu:A4y.T→Tree (A4y.T⊕A1 Yp):=Yq
def Agv:A4y.T→Nat:=Ahe
theorem Bie:Bb Tryz.prog 24 B6j (B8 A4y Yp (Dy [.exit 0] Agu Agv)):=Br A86 7 _ A4y Yp (fun _=>Nat.le_refl _) [.exit 0] Agu Agv (fun g=>by kernel_rfl)
noncomputable def Bif:Ctx:=I7 Tryz.prog plIw [(37,Tryz.f37),(24,Tryz.f24),(57,Tryz.f57)] [((24,10),B8 A4y Yp (Dy [.exit 0] Agu Agv))]
theorem Ayg:CtxOk Bif:=Cp Aw puIw (fns_cons is_Touched (fns_cons is_InWay (fns_cons is_lchk A0))) (Bn (fun d _ g hg=>nomatch (show none=some g from hg)) (Bn (Cc (by kernel_rfl) (by kernel_rfl) Bie (24,Tryz.f24) (List.mem_singleton.2 rfl)) (Bn (fun d _ g hg=>nomatch (show none=some g from hg)) Gi)))
theorem Agw:A7 Tryz.prog 37 Agt:=B5w Ayg 9 (fun x=>Azo x.1 x.2.1 x.2.1 x.2.2.1 x.2.2.2.1) (fun x=>by kernel_rfl) fun x hok _=>Ahg (of_decide_eq_true hok)
abbrev kLn:List SK:=[.d cI,.d cI,.d cI]
def Bih:List BK:=[(2,2,[.d cI]),(3,85,[.d (.sl A2)]),(4,31,kP6),(5,49,[.d cI]),(23,172,kLn),(24,2,[.d cI])]
def B8e:List BK:=[(4,31,kP6),(5,49,[.d cI])]
noncomputable def A4z:LK:={ id:=26,keys:=[6,7,8,9],ks:=[.p 2 0 0 0,.p 3 0 0 0,.p 4 0 0 0,.p 5 0 0 0],n:=61,fn:=34,params:=[52,53],assign:=(rangeAt Tryz.f34 0).1,body:=(rangeAt Tryz.f34 0).2,df:=25,st:=some 0 }
noncomputable def A7n:LK:={ id:=26,keys:=[],ks:=[],n:=61,fn:=34,params:=[52,53],assign:=(rangeAt Tryz.f34 0).1,body:=(rangeAt Tryz.f34 0).2,df:=25,st:=some 0 }
noncomputable def A7o:LK:={ id:=26,keys:=[],ks:=[],n:=61,fn:=34,params:=[52,53],assign:=(rangeAt Tryz.f34 0).1,body:=(rangeAt Tryz.f34 0).2,df:=25,st:=some 1 }
noncomputable def O7:Lay2:={ keys:=[0,1,2,4,5],ks:=[.y 26,.p 23 0 0 0,.p 24 0 0 0,.d cI,.d cI],bs:=Bih,ls:=[A4z],n:=40,nx:=1000,marks:=[],ds:=[25] }
noncomputable def Bii:Lay2:={ keys:=[],ks:=[],bs:=B8e,ls:=[A7n],n:=40,nx:=1000,marks:=[],ds:=[25] }
noncomputable def Bdj:Lay2:={ keys:=[],ks:=[],bs:=B8e,ls:=[A7o],n:=40,nx:=1000,marks:=[],ds:=[25] }
noncomputable def Mm:XE→Lay2:=fun e=>match e with | .ret=>Bdj | _=>Bii
noncomputable def A7p:Ctx:=ctx Tryz.prog plPut Ayf
end V
end Go.Proofs.YtcfanlgpkefogaaGreat
namespace Go.Proofs.YtcfanlgpkefogaaGreat
open Go.RowKit
namespace V
open St
structure Cpu where
 r:Int
 o:List (TCT A2)
 y:SKTs kLn
 st:Int
 res:SKTs kP6
 e:Int
noncomputable def Bij:LTs [A4z]:=(((((),(),(),(),()):SKTs A4z.ks),((():Unit):StT A4z.st)),())
noncomputable def Agx (c:Cpu) (m t:Int):O7.T:=(((),(),(),m,t,()),((c.r,()),(c.o,()),c.res,(c.e,()),c.y,(c.st,()),()),Bij)
noncomputable def Agy (p:TCT cPt):E2 Mm:=⟨.ret,((),((p.1,p.2.1,()),(0,()),()),(((():SKTs A7o.ks),((():Unit):StT A7o.st)),()))⟩
noncomputable def Agz (c:Cpu):E2 Mm:=⟨.exit 0,((),(c.res,(c.e,()),()),(((():SKTs A7n.ks),((():Unit):StT A7n.st)),()))⟩
def lnY (y:SKTs kLn):TCT Il:=(y.1,y.2.1,y.2.2.1,())
def at0 (y:TCT Il) (n:Int):TCT cPt:=((atF y n).1,(atF y n).2.1,())
def n1P (c:Cpu) (m t:Int):Int:=Int.tmod (W64 (c.st+t)) m
def n2P (c:Cpu) (m t:Int):Int:=Int.tmod (W64 (W64 (c.st-t)+m)) m
def Im (c:Cpu) (n:Int):Bool:=!c.o.any (Kw (at0 (lnY c.y) n,c.r,()))
abbrev TPu:=Tree (O7.T⊕E2 Mm)
noncomputable def Bdk (c:Cpu) (m t:Int):TPu:=.need (I8 [A4z]) (.leaf (.inl (Agx c m (W64 (t+1)))))
noncomputable def Ayh (p:TCT cPt):TPu:=.need (I8 [A7o]) (.leaf (.inr (Agy p)))
noncomputable def Bdl (c:Cpu):TPu:=.need (I8 [A7n]) (.leaf (.inr (Agz c)))
noncomputable def Lp (c:Cpu) (m t:Int):TPu:=bif decide (t≤W64 (Int.tdiv m 2)) then bif m != 0 then bif m != 0 then bif Im c (n1P c m t) then Ayh (at0 (lnY c.y) (n1P c m t)) else
 bif m != 0 then bif Im c (n2P c m t) then Ayh (at0 (lnY c.y) (n2P c m t)) else Bdk c m t else .fail else .fail else .fail else Bdl c
def cpu (g:O7.T):Cpu:=⟨g.2.1.1.1,g.2.1.2.1.1,g.2.1.2.2.2.2.1,g.2.1.2.2.2.2.2.1.1,g.2.1.2.2.1,g.2.1.2.2.2.1.1⟩
theorem Bik (g:O7.T):evC Tryz.prog (Dx A7p 9) A7p.pures 128 A7p.u (fun _=>none) Ags (O7.of g) (H7 O7 Mm)=Lp (cpu g) g.1.2.2.2.1 g.1.2.2.2.2.1:=by kernel_rfl
def putS (c:Cpu) (m:Int):Nat→Int→Option (TCT cPt)
 | 0,_=>none
 | n+1,t=>bif Im c (n1P c m t) then some (at0 (lnY c.y) (n1P c m t)) else bif Im c (n2P c m t) then some (at0 (lnY c.y) (n2P c m t)) else putS c m n (t+1)
noncomputable def Bil (c:Cpu):Option (TCT cPt)→E2 Mm
 | some p=>Agy p
 | none=>Agz c
def fuP (m t:Int):Nat:=Int.toNat (Int.tdiv m 2+1-t)
def Ayi (m t:Int):Bool:=decide (1≤m∧m≤1073741824∧0≤t)
def goP (x:Option (TCT cPt)):TCT cPt:=x.getD (0,0,())
noncomputable def Ayj (c:Cpu) (m t:Int):Tree (E2 Mm):=.br (Ayi m t) (.br (putS c m (fuP m t) t).isSome (.leaf (Agy (goP (putS c m (fuP m t) t)))) (.leaf (Agz c))) .fail
noncomputable def A7q (g:O7.T):Tree (E2 Mm):=Ayj (cpu g) g.1.2.2.2.1 g.1.2.2.2.2.1
theorem Acu {m:Int} (h1:1≤m) (h2:m≤1073741824):0≤Int.tdiv m 2∧Int.tdiv m 2≤1073741824∧W64 (Int.tdiv m 2)=Int.tdiv m 2:=by
 rw [Int.tdiv_eq_ediv_of_nonneg (by omega)]
 have:0≤m / 2∧m / 2≤1073741824:=by omega
 exact ⟨this.1,this.2,Bi (by omega) (by omega)⟩
theorem Acv {c:Cpu} {m:Int} (h1:1≤m) (h2:m≤1073741824) {R:E2 Mm→Prop}:∀ (n:Nat) (t:Int),0≤t→Int.toNat (Int.tdiv m 2+1-t)=n→R (Bil c (putS c m n t))→Ua O7 Mm (fun g=>Lp (cpu g) g.1.2.2.2.1 g.1.2.2.2.2.1) R (n+1) (Agx c m t)
 | 0,t,t0,hn,hr=>by
  obtain ⟨a,b,e⟩:=Acu h1 h2
  intro _
  show (Lp c m t).sat _
  unfold Lp
  rw [e,decide_eq_false (show ¬ t≤Int.tdiv m 2 by omega),cond_false]
  exact ⟨Dj _,fun _=>hr⟩
 | n+1,t,t0,hn,hr=>by
  obtain ⟨a,b,e⟩:=Acu h1 h2
  intro _
  show (Lp c m t).sat _
  unfold Lp
  have hm:(m != 0)=true:=bne_iff_ne.2 (by omega)
  rw [e,decide_eq_true (show t≤Int.tdiv m 2 by omega),hm]
  simp only [cond_true]
  unfold putS at hr
  cases hf:Im c (n1P c m t) with
  | true=>rw [hf] at hr;exact ⟨Dj _,fun _=>hr⟩
  | false =>
   rw [hf] at hr
   simp only [cond_false] at hr ⊢
   cases hg:Im c (n2P c m t) with
   | true=>rw [hg] at hr;exact ⟨Dj _,fun _=>hr⟩
   | false =>
    rw [hg] at hr
    refine ⟨Dj _,?_⟩
    show Ua O7 Mm (fun g=>Lp (cpu g) g.1.2.2.2.1 g.1.2.2.2.2.1) R (n+1) (Agx c m (W64 (t+1)))
    rw [Bi (n:=t+1) (by omega) (by omega)]
    exact Acv h1 h2 n (t+1) (by omega) (by omega) hr
theorem Aot:CtxOk A7p:=Cp Aw puPut Acs Ir
theorem Bim:Bb Tryz.prog 128 Ags (Gf O7 Mm A7q):=by
 refine Nn Aot 9 128 (fun _=>none) (fun _ _ f h=>by simp at h) O7 Mm (fun e=>by cases e <;> exact Nat.le_refl _) A7q (fun g=>Lp (cpu g) g.1.2.2.2.1 g.1.2.2.2.2.1) Bik ?_
 intro g R _ hf
 obtain ⟨hf,h0⟩:=hf
 cases hc:Ayi g.1.2.2.2.1 g.1.2.2.2.2.1 with
 | false=>exact (h0 hc).elim
 | true =>
  obtain ⟨k1,k2,k3⟩:=of_decide_eq_true hc
  obtain ⟨h1,h2⟩:=hf hc
  refine ⟨_,Acv (c:=cpu g) k1 k2 (R:=R) (fuP g.1.2.2.2.1 g.1.2.2.2.2.1) g.1.2.2.2.2.1 k3 rfl ?_⟩
  cases hp:putS (cpu g) g.1.2.2.2.1 (fuP g.1.2.2.2.1 g.1.2.2.2.2.1) g.1.2.2.2.2.1 with
  | none=>rw [hp] at h2;exact h2 rfl
  | some p=>rw [hp] at h1;exact h1 rfl
end V
end Go.Proofs.YtcfanlgpkefogaaGreat
namespace Go.Proofs.YtcfanlgpkefogaaGreat
open Go.RowKit
namespace V
open St
def putC (l:TCT A5) (p:TCT cPt) (r:Int) (o:List (TCT A2)):Cpu:=⟨r,o,((G8 l).1,(G8 l).2.1,(G8 l).2.2.1,()),Kx (G8 l) (Fz l p),(0,0,()),0⟩
def A2d (l:TCT A5):Int:=plcF (G8 l)
def putR (l:TCT A5) (p:TCT cPt) (r:Int) (o:List (TCT A2)):Option (TCT cPt):=putS (putC l p r o) (A2d l) (fuP (A2d l) 0) 0
def putE (l:TCT A5) (p:TCT cPt) (r:Int) (o:List (TCT A2)):Int:=bif Gc l p != 0 then Gc l p else bif cbE r o != 0 then cbE r o else bif !spB l p&&decide (Kx (G8 l) p<0) then 5 else bif (putR l p r o).isSome then 0 else 15
def putV (l:TCT A5) (p:TCT cPt) (r:Int) (o:List (TCT A2)):TCT cPt:=bif putE l p r o==0 then goP (putR l p r o) else (0,0,())
def A50 (l:TCT A5):Bool:=decide ((l.1.size:Int)≤Bl .i64)&&Ayi (A2d l) 0
abbrev Bin:PureT:=Bv [A5,cPt,cI,.sl A2] [cPt,cI] (fun x=>A50 x.1) (fun x=>(((putV x.1 x.2.1 x.2.2.1 x.2.2.2.1).1,(putV x.1 x.2.1 x.2.2.1 x.2.2.2.1).2.1,()),putE x.1 x.2.1 x.2.2.1 x.2.2.2.1,()))
noncomputable def B8f:Ctx:=I7 Tryz.prog plPut Ayf [((128,2),Gf O7 Mm A7q)]
theorem Ayk:CtxOk B8f:=Cp Aw puPut Acs (Bn (D3 (by kernel_rfl)) (Bn (fun d _ g hg=>nomatch (show none=some g from hg)) (Bn (D3 (by kernel_rfl)) (Bn (Kk (ds:=[Ags]) (by kernel_rfl) ⟨Hg (k:=2) (by kernel_rfl) rfl Bim,trivial⟩) Gi))))
abbrev TPt:=Tree (TCTs [cPt,cI])
def erP (e:Int):TPt:=.leaf ((0,0,()),e,())
noncomputable def loP (l:TCT A5) (p:TCT cPt) (r:Int) (o:List (TCT A2)):TPt:=.need (I8 [A4z]) (bif Ayi (A2d l) 0 then bif (putR l p r o).isSome then .leaf (((goP (putR l p r o)).1,(goP (putR l p r o)).2.1,()),0,()) else erP 15 else .fail)
noncomputable def mnP (l:TCT A5) (p:TCT cPt) (r:Int) (o:List (TCT A2)) (k:TPt):TPt:=bif cbE r o != 0 then erP (cbE r o) else bif (Fz l p).1==p.1&&((Fz l p).2.1==p.2.1&&true) then bif decide (Kx (G8 l) p<0) then erP 5 else k else k
noncomputable def Alh (l:TCT A5) (p:TCT cPt) (r:Int) (o:List (TCT A2)):TPt:=szT l (bif Ck l != 0 then bif Ck l != 0 then erP (Ck l) else mnP l p r o .fail else bif Gu p.1 p.2.1 != 0 then erP 2 else mnP l p r o (loP l p r o))
theorem Ayl (x:TCTs [A5,cPt,cI,.sl A2]):Dx B8f 10 (.fn 34) (E7 [A5,cPt,cI,.sl A2] x) Ce 0 (J3 Tryz.prog [cPt,cI])=Alh x.1 x.2.1 x.2.2.1 x.2.2.2.1:=by kernel_rfl
theorem Aym {l:TCT A5} {p:TCT cPt} {r:Int} {o:List (TCT A2)} (hs:(l.1.size:Int)≤Bl .i64) (hm:Ayi (A2d l) 0=true):(Alh l p r o).sat fun y=>y=(((putV l p r o).1,(putV l p r o).2.1,()),putE l p r o,()):=by
 unfold Alh
 rw [Dg hs]
 cases h:Ck l != 0 with
 | true =>
  have e:putE l p r o=Ck l:=by
   unfold putE Gc
   rw [h,cond_true,h];rfl
  simp only [cond_true]
  unfold putV
  rw [e,A7m h];exact rfl
 | false =>
  rw [Mz]
  simp only [cond_false]
  cases hf:fpt p.1 p.2.1 with
  | false =>
   have e:putE l p r o=2:=by
    unfold putE Gc
    rw [h,hf];rfl
   unfold putV
   rw [e];exact rfl
  | true =>
   have e0:Gc l p=0:=by
    unfold Gc
    rw [h,hf];rfl
   simp only [Bool.not_true,cond_false]
   unfold mnP
   have ep:putE l p r o=bif cbE r o != 0 then cbE r o else bif !spB l p&&decide (Kx (G8 l) p<0) then 5 else bif (putR l p r o).isSome then 0 else 15:=by
    unfold putE
    rw [e0];rfl
   cases hc:cbE r o != 0 with
   | true =>
    rw [hc] at ep
    simp only [cond_true] at ep ⊢
    unfold putV
    rw [ep,A7m hc];exact rfl
   | false =>
    rw [hc] at ep
    simp only [cond_false] at ep ⊢
    have lo:putE l p r o=(bif (putR l p r o).isSome then 0 else 15)→(loP l p r o).sat fun y=>y=(((putV l p r o).1,(putV l p r o).2.1,()),putE l p r o,()):=by
     intro e
     unfold loP
     rw [hm]
     refine ⟨Dj _,?_⟩
     unfold putV
     rw [e]
     cases (putR l p r o).isSome <;> exact rfl
    have hq:((Fz l p).1==p.1&&((Fz l p).2.1==p.2.1&&true))=!spB l p:=by unfold spB;rw [Bool.not_not]
    rw [hq]
    cases hsp:!spB l p with
    | false =>
     rw [hsp] at ep
     exact lo ep
    | true =>
     rw [hsp] at ep
     simp only [Bool.true_and] at ep
     cases hn:decide (Kx (G8 l) p<0) with
     | true =>
      rw [hn] at ep
      have ep:putE l p r o=5:=ep
      unfold putV
      rw [ep];exact rfl
     | false =>
      rw [hn] at ep
      exact lo ep
theorem Bio:A7 Tryz.prog 34 Bin:=C0 Ayk 10 (fun x=>Alh x.1 x.2.1 x.2.2.1 x.2.2.2.1) Ayl fun x hok _=>by
 unfold A50 at hok
 rw [Bool.and_eq_true] at hok
 exact Aym (of_decide_eq_true hok.1) hok.2
end V
end Go.Proofs.YtcfanlgpkefogaaGreat
