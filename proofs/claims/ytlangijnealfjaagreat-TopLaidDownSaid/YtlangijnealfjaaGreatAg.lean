import Derived.Test.YtlangijnealfjaaGreatAb
import Derived.Test.YtlangijnealfjaaGreatCA
namespace Go.Proofs.YtlangijnealfjaaGreat
open Go.RowKit
namespace V
theorem is_cB1:FnIs Tryz.prog (107,Tryz.f107):=⟨Tryz.func107,by kernel_rfl,by kernel_rfl⟩
theorem is_vBall:FnIs Tryz.prog (106,Tryz.f106):=⟨Tryz.func106,by kernel_rfl,by kernel_rfl⟩
theorem is_ckBall:FnIs Tryz.prog (48,Tryz.f48):=⟨Tryz.func48,by kernel_rfl,by kernel_rfl⟩
def cbP (d:TCT A1):Bool:=u_ck d.1.1 d.1.2.1 != 0||!St.inR d.2.1 1 16384
abbrev Ayj:PureT:=Be [A1] [.b] (fun _=>true) (fun x=>(cbP x.1,()))
def plCb0:List (Nat×PureT):=[(70,Ld),(120,St.s_inR)]
theorem puCb0:Ci Tryz.prog plCb0:=puOk_cons Ja.plain Ns (puOk_cons St.is_between2.plain St.q_between2 puOk_nil)
theorem B55:A7 Tryz.prog 107 Ayj:=Bh (Ap Am puCb0 (fns_cons is_cB1 (fns_cons is_vBall A3))) 4 (fun x=>bif u_ck x.1.1.1 x.1.1.2.1 != 0 then .leaf (true,()) else .leaf (!St.inR x.1.2.1 1 16384,())) (fun x=>by kernel_rfl) fun x _ _=>by
 show (bif u_ck x.1.1.1 x.1.1.2.1 != 0 then Tree.leaf (true,()) else Tree.leaf (!St.inR x.1.2.1 1 16384,())).sat (fun y=>y=(u_ck x.1.1.1 x.1.1.2.1 != 0||!St.inR x.1.2.1 1 16384,()))
 cases u_ck x.1.1.1 x.1.1.2.1 != 0 <;> exact rfl
def plCb:List (Nat×PureT):=[(107,Ayj)]
theorem puCb:Ci Tryz.prog plCb:=puOk_cons is_cB1.plain B55 puOk_nil
theorem is_ixDsc:FnIs Tryz.prog (58,Tryz.f58):=⟨Tryz.func58,by kernel_rfl,by kernel_rfl⟩
theorem is_cfDsc:FnIs Tryz.prog (41,Tryz.f41):=⟨Tryz.func41,by kernel_rfl,by kernel_rfl⟩
abbrev K4:List SK:=[]
def Fq (k:SKTs K4) (x:TCT (A1)):Bool:=cbP x
noncomputable def A4e:Code:=(Aj (bodyOf Tryz.f58)).getD 0 .skip
def Ky:Lay:={ keys:=[0,1,7,8],ks:=[.d (.sl (A1)),.f 107 [] K4,.d cI,.d cI],bs:=[],n:=19,nx:=1000,marks:=[] }
def Ajl:Lay:={ keys:=[4],ks:=[.d cI],bs:=[],n:=19,nx:=1000,marks:=[] }
def Ajm:Lay:={ keys:=[],ks:=[],bs:=[],n:=19,nx:=1000,marks:=[] }
def Jl:XE→Lay
 | .ret=>Ajl
 | _=>Ajm
def A4f (k:SKTs K4) (l:List (TCT (A1))) (n i:Int):Ky.T:=((l,((),k),n,i,()),())
def V0 (i:Int):A0 Jl:=⟨.ret,((i,()),())⟩
def V1:A0 Jl:=⟨.exit 0,((),())⟩
def Kz (k:SKTs K4) (l:List (TCT (A1))) (n:Int) (x:TCT (A1)) (i:Int):Tree (Ky.T⊕A0 Jl):=bif Fq k x then .leaf (.inr (V0 i)) else .leaf (.inl (A4f k l n (W64 (i+1))))
def Ajn (k:SKTs K4) (l:List (TCT (A1))) (n i:Int):Tree (Ky.T⊕A0 Jl) :=
 bif decide (i<n) then bif decide (0≤i∧i<(l.length:Int)) then Kz k l n (Al l i.toNat (Ak (A1))) i else .fail else .leaf (.inr V1)
def Rt (g:Ky.T):Tree (A0 Jl) :=
 .br (Kg g.1.2.2.1 g.1.2.2.2.1 g.1.1) (.br (g.1.1.any (Fq g.1.2.1.2)) (.leaf (V0 (g.1.1.findIdx (Fq g.1.2.1.2)))) (.leaf V1)) .fail
theorem Asb:Ax Tryz.prog 58 A4e (As Ky Jl Rt):=by
 refine F7 (X:=ctx Tryz.prog plCb []) (Ap Am puCb A3) 7 58 (fun _=>none) (fun _ _ f h=>by simp at h) Ky Jl (fun e=>by cases e <;> exact Nat.le_refl _) Rt (fun g=>Ajn g.1.2.1.2 g.1.1 g.1.2.2.1 g.1.2.2.2.1) (fun g=>by kernel_rfl) ?_
 rintro ⟨⟨l,⟨⟨⟩,k⟩,n,i,⟨⟩⟩,⟨⟩⟩ R hw hf
 obtain ⟨hf,h0⟩:=hf
 by_cases hc:n=(l.length:Int)∧i=0
 ·obtain ⟨rfl,rfl⟩:=hc
  have hf:=hf (decide_eq_true ⟨rfl,rfl⟩)
  refine Ary l (Ak (A1)) (G6 hw.1.1) (fun n i _=>A4f k l n i) (fun x i (_:Unit)=>bif Fq k x then .inr (V0 i) else .inl ()) (fun _=>V1) (fun _=>True) (fun x i _=>Kz k l l.length x i) (fun i _=>rfl) ?_ () trivial ?_
  ·intro i _ hi Q _ _ hw1 hQ
   show (Kz k l l.length l[i] i).sat Q
   unfold Kz
   rw [hw1]
   cases hp:Fq k l[i] with
   | true=>rw [hp] at hQ;exact hQ
   | false=>rw [hp] at hQ;exact hQ trivial
  ·rw [O5 (Fq k) (fun i=>V0 i) V1 l 0,Nat.zero_add]
   cases ha:l.any (Fq k) with
   | true=>exact hf.1 ha
   | false=>exact hf.2 ha
 ·exact (h0 (decide_eq_false hc)).elim
abbrev Asd:PureT:=K1 [.d (.sl (A1)),.f 107 [] K4] [cI] (fun _=>true) (fun x=>(bif x.1.any (Fq x.2.1.2) then (x.1.findIdx (Fq x.2.1.2):Int) else -1,()))
noncomputable def Ase:Ctx:=Ib Tryz.prog plCb [(58,Tryz.f58)] [((58,keyOf A4e),As Ky Jl Rt)]
theorem A94:CtxOk Ase:=Cj Am puCb (fns_cons is_ixDsc A3) (Bw rfl (by kernel_rfl) Asb)
def Acl (k:SKTs K4) (l:List (TCT (A1))):Tree (Int×Unit):=bif Kg (l.length:Int) 0 l then bif l.any (Fq k) then .leaf ((l.findIdx (Fq k):Int),()) else .leaf (-1,()) else .fail
theorem A95 (k:SKTs K4) (l:List (TCT (A1))):(Acl k l).sat (fun y=>y=(bif l.any (Fq k) then (l.findIdx (Fq k):Int) else -1,())):=by
 refine N9 (decide_eq_true ⟨rfl,rfl⟩) ?_
 cases l.any (Fq k) <;> exact rfl
theorem Asf:A7 Tryz.prog 58 Asd:=Ox A94 8 (fun x=>Acl x.2.1.2 x.1) (fun x=>by kernel_rfl) fun x _ _=>A95 _ _
abbrev Acm:PureT:=K1 [.d (.sl (A1)),.f 107 [] K4] [.b] (fun _=>true) (fun x=>(x.1.any (Fq x.2.1.2),()))
theorem A96 (k:SKTs K4) (l:List (TCT (A1))):(Tree.leaf (decide ((bif l.any (Fq k) then (l.findIdx (Fq k):Int) else -1)≥0),()):Tree (Bool×Unit)).sat (fun y=>y=(l.any (Fq k),())):=by
 rw [Rp];exact rfl
theorem Asg:A7 Tryz.prog 41 Acm:=Ox (Ap Am (puOk_cons is_ixDsc.plain Asf puOk_nil) (fns_cons is_cfDsc A3)) 8 (fun x=>.leaf (decide ((bif x.1.any (Fq x.2.1.2) then (x.1.findIdx (Fq x.2.1.2):Int) else -1)≥0),())) (fun x=>by kernel_rfl) fun x _ _=>A96 _ _
def cbE (r:Int) (o:List (TCT A1)):Int:=bif !St.inR r 1 16384 then 3 else bif decide ((o.length:Int)>12) then 6 else bif o.any cbP then 2 else 0
abbrev A4g:PureT:=Be [cI,.sl A1] [cI] (fun _=>true) (fun x=>(cbE x.1 x.2.1,()))
def plCb2:List (Nat×PureT):=[(120,St.s_inR),(41,Acm)]
theorem puCb2:Ci Tryz.prog plCb2:=puOk_cons St.is_between2.plain St.q_between2 (puOk_cons is_cfDsc.plain Asg puOk_nil)
def Vj (r:Int) (o:List (TCT A1)):Tree (TCTs [cI]):=bif !St.inR r 1 16384 then .leaf (3,()) else bif decide ((o.length:Int)>12) then .leaf (6,()) else bif o.any (Fq ()) then .leaf (2,()) else .leaf (0,())
theorem A4h (r:Int) (o:List (TCT A1)):(Vj r o).sat (fun y=>y=(cbE r o,())):=by
 unfold Vj cbE
 show (bif !St.inR r 1 16384 then .leaf (3,()) else bif decide ((o.length:Int)>12) then .leaf (6,()) else bif o.any cbP then .leaf (2,()) else .leaf (0,()):Tree (TCTs [cI])).sat _
 cases !St.inR r 1 16384 <;> cases decide ((o.length:Int)>12) <;> cases o.any cbP <;> exact rfl
theorem Ajo:A7 Tryz.prog 48 A4g:=Bh (Ap Am puCb2 (fns_cons is_ckBall (fns_cons is_vBall A3))) 5 (fun x=>Vj x.1 x.2.1) (fun x=>by kernel_rfl) fun _ _ _=>A4h _ _
end V
end Go.Proofs.YtlangijnealfjaaGreat
namespace Go.Proofs.YtlangijnealfjaaGreat
open Go.RowKit
namespace V
open St
theorem is_InWay:FnIs Tryz.prog (14,Tryz.f14):=⟨Tryz.func14,by kernel_rfl,by kernel_rfl⟩
theorem is_InWay1:FnIs Tryz.prog (49,Tryz.f49):=⟨Tryz.func49,by kernel_rfl,by kernel_rfl⟩
theorem is_Touched:FnIs Tryz.prog (60,Tryz.f60):=⟨Tryz.func60,by kernel_rfl,by kernel_rfl⟩
theorem is_May:FnIs Tryz.prog (23,Tryz.f23):=⟨Tryz.func23,by kernel_rfl,by kernel_rfl⟩
abbrev kP6:List SK:=[.d cI,.d cI]
abbrev Uw (p:SKTs kP6):TCT cPt:=(p.1,p.2.1,())
def iwD (a b:TCT cPt) (r:Int) (d:TCT A1):Bool:=decide ((LsR a.1 a.2.1 b.1 b.2.1 d.1.1 d.1.2.1 (W64 (r+d.2.1))).1<0)
def iwF (p:TCT A1→Bool):List (TCT A1)→Int→List Int
 | [],_=>[]
 | d::ds,i=>bif p d then i::iwF p ds (i+1) else iwF p ds (i+1)
noncomputable def B56:Code:=(Aj (bodyOf Tryz.f14)).getD 0 .skip
def B99:List BK:=[(1,28,kP6),(2,28,kP6),(3,2,[.d cI])]
def A4i:Lay:={ keys:=[14,15,37,38,39],ks:=[.f 49 [] [.p 1 0 0 0,.p 2 0 0 0,.p 3 0 0 0],.o 3 cI,.d (.sl A1),.d cI,.d cI],bs:=B99,n:=53,nx:=1000,marks:=[] }
def B9a:Lay:={ keys:=[15],ks:=[.o 3 cI],bs:=[],n:=53,nx:=1000,marks:=[] }
def A97:XE→Lay:=fun _=>B9a
structure QIw where
 a:SKTs kP6
 b:SKTs kP6
 r:SKTs [.d cI]
 n:Int
 ds:List (TCT A1)
def A4j (q:QIw) (i:Int) (o:List Int):A4i.T:=((((),(),(),(),()),o,q.ds,q.n,i,()),(q.a,q.b,q.r,()))
def A4k (o:List Int):A0 A97:=⟨.exit 0,((o,()),())⟩
def A4l (q:QIw) (i:Int) (o:List Int):Tree (A4i.T⊕A0 A97) :=
 bif decide (i<q.n) then bif decide (0≤i∧i<(q.ds.length:Int)) then bif iwD (Uw q.a) (Uw q.b) q.r.1 (Al q.ds (Int.toNat i) (Ak A1)) then bif D4 o [i] 8 then .leaf (.inl (A4j q (W64 (i+1)) (o++[i]))) else .fail else .leaf (.inl (A4j q (W64 (i+1)) o)) else .fail else .leaf (.inr (A4k o))
def A0m (x:A4i.T):Tree (A4i.T⊕A0 A97):=A4l ⟨x.2.1,x.2.2.1,x.2.2.2.1,x.1.2.2.2.1,x.1.2.2.1⟩ x.1.2.2.2.2.1 x.1.2.1
def Ajp (x:A4i.T):Nat:=(x.1.2.2.1:List (TCT A1)).length+1
noncomputable def B57:Ctx:=ctx Tryz.prog [(50,Aje)] [(49,Tryz.f49)]
theorem Ajq:CtxOk B57:=Ap Am (puOk_cons is_Lies.plain B09 puOk_nil) (fns_cons is_InWay1 A3)
theorem B9b:Ax Tryz.prog 14 B56 (As A4i A97 (De [.exit 0] A0m Ajp)):=Bo Ajq 7 _ A4i A97 (fun _=>Nat.le_refl _) [.exit 0] A0m Ajp (fun g=>by kernel_rfl)
theorem Acn {E:Type} (p:TCT A1→Bool) (ex:List Int→E):∀ (l:List (TCT A1)) (i:Nat) (s:List Int),Pu (fun i x s=>some (.inl (bif p x then s++[(i:Int)] else s))) (fun s=>some (ex s)) i l s=some (ex (s++iwF p l (i:Int)))
 | [],_,s=>by simp only [Pu,iwF,List.append_nil]
 | x::l,i,s=>by
  simp only [Pu]
  rw [Acn p ex l (i+1)]
  rw [show ((i+1:Nat):Int)=(i:Int)+1 from rfl,show iwF p (x::l) (i:Int)=(bif p x then (i:Int)::iwF p l ((i:Int)+1) else iwF p l ((i:Int)+1)) from rfl]
  cases p x with
  | true=>simp only [cond_true,List.append_assoc,List.singleton_append]
  | false=>simp only [cond_false]
theorem B9c {o:List Int} {i:Int} (h:o.length≤100000):D4 o [i] 8=true:=by
 rw [F2];exact decide_eq_true (by simp only [List.length_cons,List.length_nil];omega)
theorem B58 {q:QIw} (hn:q.n=(q.ds.length:Int)) (hl:q.ds.length≤60000):iter A0m (q.ds.length+1) (A4j q 0 [])=some (A4k (iwF (iwD (Uw q.a) (Uw q.b) q.r.1) q.ds 0)):=by
 have key:=Es (st:=A0m) q.ds (fun i o=>A4j q (i:Int) o) (fun i x o=>some (.inl (bif iwD (Uw q.a) (Uw q.b) q.r.1 x then o++[(i:Int)] else o))) (fun o=>some (A4k o)) (fun i o=>o.length≤i)
  (fun i o hi hI=>by
   simp only
   refine ⟨?_,?_⟩
   ·show (A4l q (i:Int) o).run=_
    unfold A4l
    rw [hn,decide_eq_true (show (i:Int)<(q.ds.length:Int) by omega),decide_eq_true (show 0≤(i:Int)∧(i:Int)<(q.ds.length:Int) by omega),show Int.toNat (i:Int)=i by omega,D2 hi,B5 (n:=(i:Int)+1) (by omega) (by omega),B9c (by omega)]
    simp only [cond_true]
    cases iwD (Uw q.a) (Uw q.b) q.r.1 q.ds[i] <;> rfl
   ·cases iwD (Uw q.a) (Uw q.b) q.r.1 q.ds[i] with
    | true=>simp only [cond_true,List.length_append,List.length_singleton];omega
    | false=>simp only [cond_false];omega)
  (fun o e hI he=>by
   cases he
   show (A4l q (q.ds.length:Int) o).run=_
   unfold A4l
   rw [hn,decide_eq_false (show ¬ (q.ds.length:Int)<(q.ds.length:Int) by omega)]
   rfl)
  q.ds.length 0 [] (A4k (iwF (iwD (Uw q.a) (Uw q.b) q.r.1) q.ds 0)) (q.ds.length+1) (by omega) (by omega) (Nat.zero_le _) (by rw [List.drop_zero,Acn,List.nil_append];rfl)
 exact key
def J3 (l:TCT A8) (a b:TCT cPt) (r:Int) (o:List (TCT A1)):Int:=bif Cd l != 0 then Cd l else bif u_ck a.1 a.2.1 != 0 then 2 else bif u_ck b.1 b.2.1 != 0 then 2 else cbE r o
def Ru (l:TCT A8) (a b:TCT cPt) (r:Int) (o:List (TCT A1)):List Int:=bif J3 l a b r o==0 then iwF (iwD a b r) (Bc l++o) 0 else []
abbrev Ash:PureT:=Be [A8,cPt,cPt,cI,.sl A1] [.sl cI,cI] (fun x=>decide ((x.1.1.size:Int)≤B0 .i64)) (fun x=>(Ru x.1 x.2.1 x.2.2.1 x.2.2.2.1 x.2.2.2.2.1,J3 x.1 x.2.1 x.2.2.1 x.2.2.2.1 x.2.2.2.2.1,()))
def plIw:List (Nat×PureT):=(105,To)::(52,L8)::(70,Ld)::(48,A4g)::(51,A4d)::[]
theorem puIw:Ci Tryz.prog plIw:=puOk_cons is_lCheck.plain Q7 (puOk_cons is_lposts.plain A2l (puOk_cons Ja.plain Ns (puOk_cons is_ckBall.plain Ajo (puOk_cons is_Concat.plain Ajk puOk_nil))))
abbrev TIw:=Tree (TCTs [.sl cI,cI])
def B0a (a b:TCT cPt) (r:Int) (ds:List (TCT A1)):Option (A0 A97):=iter A0m (ds.length+1) (A4j ⟨a,b,(r,()),(ds.length:Int),ds⟩ 0 [])
def Asi (l:TCT A8) (a b:TCT cPt) (r:Int) (o:List (TCT A1)):TIw:=bif cbE r o != 0 then .leaf ([],cbE r o,()) else bif decide ((Aw l).length≤1000) then bif cc2 [Bc l,o] then bif isE (.exit 0) (B0a a b r (ccV [Bc l,o])) then .leaf ((C3 (.exit 0) (B0a a b r (ccV [Bc l,o]))).1.1,0,()) else .fail else .fail else .fail
def B0b (l:TCT A8) (a b:TCT cPt) (r:Int) (o:List (TCT A1)):TIw:=szT l (bif Cd l != 0 then bif Cd l != 0 then .leaf ([],Cd l,()) else Asi l a b r o else bif u_ck a.1 a.2.1 != 0 then .leaf ([],2,()) else bif u_ck b.1 b.2.1 != 0 then .leaf ([],2,()) else Asi l a b r o)
noncomputable def B9d:Ctx:=Ib Tryz.prog plIw [(14,Tryz.f14),(47,Tryz.f47)] [((14,10),As A4i A97 (De [.exit 0] A0m Ajp))]
theorem Asj:CtxOk B9d:=Cj Am puIw (fns_cons is_InWay (fns_cons is_lchk A3)) (Ej (Bw (by kernel_rfl) (by kernel_rfl) B9b (14,Tryz.f14) (List.mem_singleton.2 rfl)) (Ej (fun d _ g hg=>nomatch (show none=some g from hg)) Iv))
theorem Ajr {l:TCT A8} (h:Cd l=0):(Bc l).length≤25:=by
 have:=(Q9 h).1
 unfold Bc
 rw [List.length_append,Q5]
 simp only [List.length_singleton]
 omega
theorem B0c {r:Int} {o:List (TCT A1)} (h:cbE r o=0):o.length≤12:=by
 unfold cbE at h
 cases h1:!St.inR r 1 16384 with
 | true=>rw [h1] at h;cases h
 | false =>
  cases h2:decide ((o.length:Int)>12) with
  | true=>rw [h1,h2] at h;cases h
  | false =>
   have:=of_decide_eq_false h2
   omega
theorem Asl {l:TCT A8} {a b:TCT cPt} {r:Int} {o:List (TCT A1)} (h:Cd l=0) (ha:u_ck a.1 a.2.1=0) (hb:u_ck b.1 b.2.1=0):(Asi l a b r o).sat (fun y=>y=(Ru l a b r o,J3 l a b r o,())):=by
 have e:J3 l a b r o=cbE r o:=by unfold J3;rw [h,ha,hb];rfl
 unfold Asi Ru
 rw [e]
 have h12:=(Q9 h).1
 have hp:=Ajr h
 cases hc:cbE r o != 0 with
 | true =>
  have hc':(cbE r o==0)=false:=by simpa using hc
  rw [hc']
  exact Ai rfl
 | false =>
  have hc':=bne_eq_false_iff_eq.1 hc
  have hl:=B0c hc'
  rw [cond_false,decide_eq_true (show (Aw l).length≤1000 by omega),show cc2 [Bc l,o]=true from decide_eq_true (show (Bc l).length+o.length≤60000 by omega),cond_true,cond_true]
  have hv:ccV [Bc l,o]=Bc l++o:=rfl
  have hll:(Bc l++o).length≤60000:=by rw [List.length_append];omega
  have hy:B0a a b r (ccV [Bc l,o])=some (A4k (iwF (iwD a b r) (Bc l++o) 0)):=by
   rw [hv]
   exact B58 (q:=⟨a,b,(r,()),((Bc l++o).length:Int),Bc l++o⟩) rfl hll
  rw [hy,hc']
  exact Ai rfl
theorem Asm {l:TCT A8} {a b:TCT cPt} {r:Int} {o:List (TCT A1)} (hs:(l.1.size:Int)≤B0 .i64):(B0b l a b r o).sat (fun y=>y=(Ru l a b r o,J3 l a b r o,())):=by
 unfold B0b
 rw [E1 hs]
 cases h:Cd l != 0 with
 | true =>
  have e:J3 l a b r o=Cd l:=by unfold J3;rw [h];rfl
  have h':(Cd l==0)=false:=by simpa using h
  unfold Ru
  rw [e,h']
  exact Ai rfl
 | false =>
  have h':=bne_eq_false_iff_eq.1 h
  rw [cond_false]
  cases ha:u_ck a.1 a.2.1 != 0 with
  | true =>
   have e:J3 l a b r o=2:=by unfold J3;rw [h,ha];rfl
   unfold Ru
   rw [e]
   exact Ai rfl
  | false =>
   rw [cond_false]
   cases hb:u_ck b.1 b.2.1 != 0 with
   | true =>
    have e:J3 l a b r o=2:=by unfold J3;rw [h,ha,hb];rfl
    unfold Ru
    rw [e]
    exact Ai rfl
   | false=>exact Asl h' (bne_eq_false_iff_eq.1 ha) (bne_eq_false_iff_eq.1 hb)
theorem Asn:A7 Tryz.prog 14 Ash:=Bh Asj 10 (fun x=>B0b x.1 x.2.1 x.2.2.1 x.2.2.2.1 x.2.2.2.2.1) (fun x=>by kernel_rfl) fun x hok _=>Asm (of_decide_eq_true hok)
abbrev Ag3:PureT:=Be [A8,cPt,cI,.sl A1] [.sl cI,cI] (fun x=>decide ((x.1.1.size:Int)≤B0 .i64)) (fun x=>(Ru x.1 x.2.1 x.2.1 x.2.2.1 x.2.2.2.1,J3 x.1 x.2.1 x.2.1 x.2.2.1 x.2.2.2.1,()))
theorem Ag4:A7 Tryz.prog 60 Ag3:=Bh (Ap Am (puOk_cons is_InWay.plain Asn puOk_nil) (fns_cons is_Touched A3)) 5 (fun x=>szT x.1 (.leaf (Ru x.1 x.2.1 x.2.1 x.2.2.1 x.2.2.2.1,J3 x.1 x.2.1 x.2.1 x.2.2.1 x.2.2.2.1,()))) (fun x=>by kernel_rfl) fun x hok _=>by
  rw [E1 (of_decide_eq_true hok)];exact Ai rfl
def mayE (l:TCT A8) (p:TCT cPt) (r:Int) (o:List (TCT A1)):Int:=J3 l p p r o
def mayB (l:TCT A8) (p:TCT cPt) (r:Int) (o:List (TCT A1)):Bool:=bif J3 l p p r o != 0 then false else ((Ru l p p r o).length:Int)==0&&onB l p
abbrev Ajs:PureT:=Be [A8,cPt,cI,.sl A1] [.b,cI] (fun x=>decide ((x.1.1.size:Int)≤B0 .i64)) (fun x=>(mayB x.1 x.2.1 x.2.2.1 x.2.2.2.1,mayE x.1 x.2.1 x.2.2.1 x.2.2.2.1,()))
abbrev B9e:=Tree (TCTs [.b,cI])
def Ajt (l:TCT A8) (p:TCT cPt) (r:Int) (o:List (TCT A1)):B9e:=szT l (bif J3 l p p r o != 0 then .leaf (false,J3 l p p r o,()) else bif ((Ru l p p r o).length:Int)==0 then bif St.inR p.1 0 l.2.1 then .leaf (St.inR p.2.1 0 l.2.2.1,0,()) else .leaf (false,0,()) else .leaf (false,0,()))
theorem Aju {l:TCT A8} {p:TCT cPt} {r:Int} {o:List (TCT A1)} (hs:(l.1.size:Int)≤B0 .i64):(Ajt l p r o).sat (fun y=>y=(mayB l p r o,mayE l p r o,())):=by
 unfold Ajt mayB mayE
 rw [E1 hs]
 cases h:J3 l p p r o != 0 with
 | true=>exact Ai rfl
 | false =>
  have h':=bne_eq_false_iff_eq.1 h
  rw [h']
  cases ((Ru l p p r o).length:Int)==0 with
  | false=>exact Ai rfl
  | true =>
   unfold onB
   cases St.inR p.1 0 l.2.1 <;> exact Ai rfl
theorem Ajv:A7 Tryz.prog 23 Ajs:=Bh (Ap Am (puOk_cons is_Touched.plain Ag4 (puOk_cons is_between2.plain q_between2 puOk_nil)) (fns_cons is_May (fns_cons is_lon A3))) 5 (fun x=>Ajt x.1 x.2.1 x.2.2.1 x.2.2.2.1) (fun x=>by kernel_rfl) fun x hok _=>Aju (of_decide_eq_true hok)
end V
end Go.Proofs.YtlangijnealfjaaGreat
namespace Go.Proofs.YtlangijnealfjaaGreat
open Go.RowKit
namespace V
namespace Tp
open St
theorem is_green:FnIs Tryz.prog (8,Tryz.f8):=⟨Tryz.func8,by kernel_rfl,by kernel_rfl⟩
theorem is_round:FnIs Tryz.prog (21,Tryz.f21):=⟨Tryz.func21,by kernel_rfl,by kernel_rfl⟩
theorem is_spot:FnIs Tryz.prog (9,Tryz.f9):=⟨Tryz.func9,by kernel_rfl,by kernel_rfl⟩
theorem is_set:FnIs Tryz.prog (27,Tryz.f27):=⟨Tryz.func27,by kernel_rfl,by kernel_rfl⟩
abbrev B59:TC:=.i .u16
abbrev Bz:TC:=.st [B59,B59]
def Ayk:TCT Bp:=(50000,40000,6000,500,false,())
def Ayl:TCT Bp:=(30000,100000,6200,500,true,())
def B9f:TCT A1:=((50000,100000,()),1200,())
def nameG:ByteArray:=⟨#[103,114,101,101,110]⟩
def grn (d s:Int):TCT A8:=(nameG,100000,200000,5000,[Ayk,Ayl],B9f,1,1,[(d,s,0,())],())
abbrev V2:PureT:=Be [cI,cI] [A8] (fun _=>true) (fun x=>(grn x.1 x.2.1,()))
theorem A2b:A7 Tryz.prog 8 V2:=Bh (Ap Am puOk_nil (fns_cons is_green A3)) 5 (fun x=>.leaf (grn x.1 x.2.1,())) (fun x=>by kernel_rfl) fun _ _ _=>Ai rfl
def K5:TCT A2:=(450,2946,())
abbrev A2c:PureT:=Be [] [A2] (fun _=>true) (fun _=>(K5,()))
theorem Aco:A7 Tryz.prog 21 A2c:=Bh (Ap Am puOk_nil (fns_cons is_round A3)) 5 (fun x=>.leaf (K5,())) (fun x=>by kernel_rfl) fun _ _ _=>Ai rfl
def spt (d:TCT Bz):TCT cPt:=(W64 (Int.tdiv (W64 (W64 d.1*3)) 2),W64 (W64 d.2.1*3),())
abbrev A98:PureT:=Be [Bz] [cPt] (fun _=>true) (fun x=>(spt x.1,()))
theorem Ajw:A7 Tryz.prog 9 A98:=Bh (Ap Am puOk_nil (fns_cons is_spot A3)) 5 (fun x=>.leaf (spt x.1,())) (fun x=>by kernel_rfl) fun _ _ _=>Ai rfl
end Tp
end V
end Go.Proofs.YtlangijnealfjaaGreat
namespace Go.Proofs.YtlangijnealfjaaGreat
open Go.RowKit
namespace V
namespace Tp
open St
abbrev kGb:List SK:=[.d .s,.d cI,.d cI,.d cI,.d (.sl Bp),.d cI,.d cI,.d cI,.d cI,.d cI,.d (.sl Ce),.o 68 A2,.d cI,.d cI]
noncomputable def B0d:Code:=(Aj (bodyOf Tryz.f27)).getD 0 .skip
def Aym:List BK:=[(1,64,kGr),(2,76,kSt),(8,64,kGb)]
def Pw:Lay:={ keys:=[2,8,9,11,12,13,14],ks:=[.d (.sl Bz),.p 1 0 0 0,.p 2 0 0 0,.p 8 0 0 0,.o 28 cPt,.o 30 A1,.d cI],bs:=Aym,n:=97,nx:=1000,marks:=[] }
def B5a:Lay:={ keys:=[2,8,9,11,12],ks:=[.d (.sl Bz),.p 1 0 0 0,.p 2 0 0 0,.p 8 0 0 0,.o 28 cPt],bs:=Aym,n:=97,nx:=1000,marks:=[] }
def B0e:Lay:={ keys:=[8,9,10],ks:=[.p 1 0 0 0,.p 2 0 0 0,.d .b],bs:=[(1,64,kGb),(2,76,kSt)],n:=97,nx:=1000,marks:=[] }
def Md:XE→Lay:=fun e=>match e with | .ret=>B0e | _=>B5a
def plSet5:List (Nat×PureT):=(23,Ajs)::(8,V2)::(21,A2c)::(9,A98)::(24,Az1)::[]
theorem puSet5:Ci Tryz.prog plSet5:=puOk_cons is_May.plain Ajv (puOk_cons is_green.plain A2b (puOk_cons is_round.plain Aco (puOk_cons is_spot.plain Ajw (puOk_cons is_sLie.plain Az2 puOk_nil))))
noncomputable def B0f:Ctx:=ctx Tryz.prog plSet5 []
theorem Ag5:CtxOk B0f:=Ap Am puSet5 A3
abbrev GbT:Type:=SKTs kGb
def lwb (g:GbT):TCT A8:=(g.1,g.2.1,g.2.2.1,g.2.2.2.1,g.2.2.2.2.1,((g.2.2.2.2.2.1,g.2.2.2.2.2.2.1,()),g.2.2.2.2.2.2.2.1,()),g.2.2.2.2.2.2.2.2.1,g.2.2.2.2.2.2.2.2.2.1,g.2.2.2.2.2.2.2.2.2.2.1,())
def blb (g:GbT):List (TCT A2):=g.2.2.2.2.2.2.2.2.2.2.2.1
def wbl (g:GbT) (b:List (TCT A2)):GbT:=(g.1,g.2.1,g.2.2.1,g.2.2.2.1,g.2.2.2.2.1,g.2.2.2.2.2.1,g.2.2.2.2.2.2.1,g.2.2.2.2.2.2.2.1,g.2.2.2.2.2.2.2.2.1,g.2.2.2.2.2.2.2.2.2.1,g.2.2.2.2.2.2.2.2.2.2.1,b,g.2.2.2.2.2.2.2.2.2.2.2.2.1,g.2.2.2.2.2.2.2.2.2.2.2.2.2.1,())
structure QSt where
 l:List (TCT Bz)
 g0:SKTs kGr
 s0:SKTs kSt
def Bd (p:TCT cPt):TCT A1:=((p.1,p.2.1,()),2946,())
def A2d (q:QSt) (g:GbT) (i:Int) (ps:List (TCT cPt)) (os:List (TCT A1)):Pw.T:=((q.l,(),(),(),ps,os,i,()),(q.g0,q.s0,g,()))
def A2e (q:QSt) (g:GbT) (ps:List (TCT cPt)):A0 Md:=⟨.exit 0,((q.l,(),(),(),ps,()),(q.g0,q.s0,g,()))⟩
def A99 (g:GbT):A0 Md:=⟨.ret,(((),(),false,()),(g,([],[],0,0,0,()),()))⟩
def A9a (q:QSt) (g:GbT) (i:Int) (ps:List (TCT cPt)) (os:List (TCT A1)) (p:TCT cPt):Tree (Pw.T⊕A0 Md) :=
 bif mayE (lwb g) p 2946 os != 0 then .leaf (.inr (A99 g)) else bif !mayB (lwb g) p 2946 os then .leaf (.inr (A99 g)) else
 bif D4 (blb g) [K5] 16 then bif D4 ps [p] 16 then bif D4 os [Bd p] 24 then .leaf (.inl (A2d q (wbl g (blb g++[K5])) (W64 (i+1)) (ps++[p]) (os++[Bd p]))) else .fail else .fail else .fail
def Vk (q:QSt) (g:GbT) (i:Int) (ps:List (TCT cPt)) (os:List (TCT A1)):Tree (Pw.T⊕A0 Md) :=
 bif decide (i<(q.l.length:Int)) then inN q.l.length i (szT (lwb g) (A9a q g i ps os (spt (Al q.l (Int.toNat i) (Ak Bz))))) else .leaf (.inr (A2e q g ps))
def Rv (x:Pw.T):Tree (Pw.T⊕A0 Md):=Vk ⟨x.1.1,x.2.1,x.2.2.1⟩ x.2.2.2.1 x.1.2.2.2.2.2.2.1 x.1.2.2.2.2.1 x.1.2.2.2.2.2.1
def A9b (x:Pw.T):Nat:=(x.1.1:List (TCT Bz)).length+1
theorem B5b:Ax Tryz.prog 27 B0d (As Pw Md (De [.ret,.exit 0] Rv A9b)):=Bo Ag5 7 _ Pw Md (fun e=>by cases e <;> exact Nat.le_refl _) [.ret,.exit 0] Rv A9b (fun g=>by kernel_rfl)
def setF (w:TCT A8) (l:List (TCT Bz)) (i:Nat) (ps:List (TCT cPt)):List (TCT cPt)⊕List (TCT cPt) :=
 bif mayE w (spt (Al l i (Ak Bz))) 2946 (ps.map Bd)!=0 then .inr ps else bif !mayB w (spt (Al l i (Ak Bz))) 2946 (ps.map Bd) then .inr ps else .inl (ps++[spt (Al l i (Ak Bz))])
def gbN (g:GbT) (n:Nat):GbT:=wbl g (List.replicate n K5)
def Vl (q:QSt) (g:GbT):List (TCT cPt)⊕List (TCT cPt)→A0 Md
 | .inl ps=>A2e q (gbN g ps.length) ps
 | .inr ps=>A99 (gbN g ps.length)
theorem B0g {q:QSt} {g:GbT} (hl:q.l.length≤1000) (hs:((lwb g).1.size:Int)≤B0 .i64):iter Rv (q.l.length+1) (A2d q (gbN g 0) 0 [] [])=some (Vl q g (An (setF (lwb g) q.l) 0 q.l.length [])):=by
 have key:=I7 (st:=Rv) q.l.length (fun i ps=>A2d q (gbN g i) (i:Int) ps (ps.map Bd)) (setF (lwb g) q.l) (Vl q g) (fun i ps=>ps.length=i)
  (fun i ps hi hI=>by
   show (Vk q (gbN g i) (i:Int) ps (ps.map Bd)).run=_
   unfold Vk inN
   rw [decide_eq_true (show (i:Int)<(q.l.length:Int) by omega),decide_eq_true (show 0≤(i:Int)∧(i:Int)<(q.l.length:Int) by omega),show Int.toNat (i:Int)=i by omega]
   show (szT (lwb g) (A9a q (gbN g i) (i:Int) ps (ps.map Bd) (spt (Al q.l i (Ak Bz)))):Tree _).run=_
   rw [E1 hs]
   unfold A9a setF
   rw [show lwb (gbN g i)=lwb g from rfl]
   generalize spt (Al q.l i (Ak Bz))=p
   cases mayE (lwb g) p 2946 (ps.map Bd)!=0 with
   | true=>simp only [cond_true,Amj,Vl,hI];rfl
   | false =>
    cases !mayB (lwb g) p 2946 (ps.map Bd) with
    | true=>simp only [cond_true,cond_false,Amj,Vl,hI];rfl
    | false =>
     rw [B5 (n:=(i:Int)+1) (by omega) (by omega)]
     have e1:D4 (blb (gbN g i)) [K5] 16=true:=by
      rw [F2];exact decide_eq_true (by show (((List.replicate i K5).length+[K5].length:Nat):Int)*16≤_;rw [List.length_replicate];simp only [List.length_singleton];omega)
     have e2:D4 ps [p] 16=true:=by rw [F2];exact decide_eq_true (by simp only [List.length_singleton];omega)
     have e3:D4 (ps.map Bd) [Bd p] 24=true:=by rw [F2];exact decide_eq_true (by simp only [List.length_singleton,List.length_map];omega)
     have e4:wbl (gbN g i) (blb (gbN g i)++[K5])=gbN g (i+1):=by
      show wbl g (List.replicate i K5++[K5])=wbl g (List.replicate (i+1) K5)
      rw [List.replicate_succ']
     have e5:ps.map Bd++[Bd p]=(ps++[p]).map Bd:=by rw [List.map_append];rfl
     rw [e1,e2,e3,e4,e5]
     rfl)
  (fun i ps ps' _ hI h=>by
   unfold setF at h
   cases h1:mayE (lwb g) (spt (Al q.l i (Ak Bz))) 2946 (ps.map Bd)!=0 with
   | true=>rw [h1] at h;cases h
   | false =>
    cases h2:!mayB (lwb g) (spt (Al q.l i (Ak Bz))) 2946 (ps.map Bd) with
    | true=>rw [h1,h2] at h;cases h
    | false =>
     rw [h1,h2] at h
     cases h
     rw [List.length_append,List.length_singleton,hI])
  (fun ps hI=>by
   show (Vk q (gbN g q.l.length) (q.l.length:Int) ps (ps.map Bd)).run=_
   unfold Vk
   rw [decide_eq_false (show ¬ (q.l.length:Int)<(q.l.length:Int) by omega)]
   show some (Sum.inr (A2e q (gbN g q.l.length) ps))=some (Sum.inr (A2e q (gbN g ps.length) ps))
   rw [hI]) q.l.length 0 [] (by omega) rfl
 exact key
noncomputable def Ajx:Ctx:=Ib Tryz.prog plSet5 [(27,Tryz.f27)] [((27,5),As Pw Md (De [.ret,.exit 0] Rv A9b))]
theorem Ajy:CtxOk Ajx:=Cj Am puSet5 (fns_cons is_set A3) (Bw (by kernel_rfl) (by kernel_rfl) B5b)
def gb0 (d s:Int) (x:TCT Cc):GbT:=(nameG,100000,200000,5000,[Ayk,Ayl],50000,100000,1200,1,1,[(d,s,0,())],[],x.1,x.2.1,())
def g00:SKTs kGr:=(⟨#[]⟩,0,0,0,[],0,0,0,0,0,[],[],0,0,())
def s00:SKTs kSt:=([],[],0,0,0,())
def Acp (d s:Int) (l:List (TCT Bz)) (x:TCT Cc):Option (A0 Md):=iter Rv (l.length+1) (A2d ⟨l,g00,s00⟩ (gb0 d s x) 0 [] [])
abbrev Aso:=Tree (TCTs [cGr,cSt,.b])
def grb (g:GbT):TCT cGr:=(lwb g,blb g,(g.2.2.2.2.2.2.2.2.2.2.2.2.1,g.2.2.2.2.2.2.2.2.2.2.2.2.2.1,()),())
def B0h (l:List (TCT Bz)) (r:TCTs [cSt,cI]):Bool:=r.2.1==0&&(((msT r.1).length:Int)==(l.length:Int)&&((osT r.1).length:Int)==(l.length:Int))
def Ajz (l:List (TCT Bz)) (g:GbT) (r:TCTs [cSt,cI]):Aso:=bif r.2.1==0 then bif ((msT r.1).length:Int)==(l.length:Int) then .leaf (grb g,St.etaS r.1,((osT r.1).length:Int)==(l.length:Int),()) else .leaf (grb g,St.etaS r.1,false,()) else .leaf (grb g,St.etaS r.1,false,())
def Ak0 (g:GbT) (l:List (TCT Bz)) (ps:List (TCT cPt)):Aso:=szT (lwb g) (Ajz l g (Et (grb g) ps))
def Ak1 (y:Option (A0 Md)):Aso:=bif isE .ret y then .leaf (grb (C3 .ret y).2.1,(C3 .ret y).2.2.1,(C3 .ret y).1.2.2.1,()) else bif isE (.exit 0) y then Ak0 (C3 (.exit 0) y).2.2.2.1 (C3 (.exit 0) y).1.1 (C3 (.exit 0) y).1.2.2.2.2.1 else .fail
theorem Ak2 (x:TCTs [cI,cI,.sl Bz,Cc]):Dh Ajx 7 (.fn 27) (Eg [cI,cI,.sl Bz,Cc] x) C4 0 (Ir Ajx.P [cGr,cSt,.b])=Ak1 (Acp x.1 x.2.1 x.2.2.1 x.2.2.2.1):=by kernel_rfl
def gN (d s:Int) (x:TCT Cc) (n:Nat):TCT cGr:=(grn d s,List.replicate n K5,(x.1,x.2.1,()),())
abbrev Asp:Type:=List (TCT cPt)⊕List (TCT cPt)
def A4m (d s:Int) (l:List (TCT Bz)):Asp:=An (setF (grn d s) l) 0 l.length []
def sN:Asp→Nat
 | .inl p=>p.length
 | .inr p=>p.length
def sS (d s:Int) (x:TCT Cc):Asp→TCT cSt
 | .inl p=>St.etaS (Et (gN d s x p.length) p).1
 | .inr _=>zS
def sB (d s:Int) (x:TCT Cc) (l:List (TCT Bz)):Asp→Bool
 | .inl p=>B0h l (Et (gN d s x p.length) p)
 | .inr _=>false
abbrev Ayn:PureT:=Be [cI,cI,.sl Bz,Cc] [cGr,cSt,.b] (fun x=>decide (x.2.2.1.length≤1000)) (fun x=>(gN x.1 x.2.1 x.2.2.2.1 (sN (A4m x.1 x.2.1 x.2.2.1)),sS x.1 x.2.1 x.2.2.2.1 (A4m x.1 x.2.1 x.2.2.1),sB x.1 x.2.1 x.2.2.2.1 x.2.2.1 (A4m x.1 x.2.1 x.2.2.1),()))
theorem Px (d s:Int):((grn d s).1.size:Int)≤B0 .i64:=by
 show ((nameG.size:Nat):Int)≤_
 decide
theorem Ak3 {d s:Int} {l:List (TCT Bz)} {x:TCT Cc} (hl:l.length≤1000):(Ak1 (Acp d s l x)).sat (fun y=>y=(gN d s x (sN (A4m d s l)),sS d s x (A4m d s l),sB d s x l (A4m d s l),())):=by
 have e:Acp d s l x=some (Vl ⟨l,g00,s00⟩ (gb0 d s x) (A4m d s l)):=B0g (q:=⟨l,g00,s00⟩) (g:=gb0 d s x) hl (Px d s)
 rw [e]
 cases A4m d s l with
 | inr ps=>exact Ai rfl
 | inl ps =>
  show (Ak0 (gbN (gb0 d s x) ps.length) l ps).sat _
  unfold Ak0
  rw [E1 (show (((lwb (gbN (gb0 d s x) ps.length)).1.size:Nat):Int)≤_ from Px d s)]
  show (Ajz l (gbN (gb0 d s x) ps.length) (Et (gN d s x ps.length) ps)).sat _
  unfold Ajz
  show (bif (Et (gN d s x ps.length) ps).2.1==0 then bif ((msT (Et (gN d s x ps.length) ps).1).length:Int)==(l.length:Int) then .leaf (gN d s x ps.length,St.etaS (Et (gN d s x ps.length) ps).1,((osT (Et (gN d s x ps.length) ps).1).length:Int)==(l.length:Int),()) else .leaf (gN d s x ps.length,St.etaS (Et (gN d s x ps.length) ps).1,false,()) else .leaf (gN d s x ps.length,St.etaS (Et (gN d s x ps.length) ps).1,false,()):Aso).sat (fun y=>y=(gN d s x ps.length,St.etaS (Et (gN d s x ps.length) ps).1,B0h l (Et (gN d s x ps.length) ps),()))
  unfold B0h
  cases (Et (gN d s x ps.length) ps).2.1==0 <;> cases ((msT (Et (gN d s x ps.length) ps).1).length:Int)==(l.length:Int) <;> exact Ai rfl
theorem B5c:A7 Tryz.prog 27 Ayn:=Bh Ajy 7 (fun x=>Ak1 (Acp x.1 x.2.1 x.2.2.1 x.2.2.2.1)) Ak2 fun x hok _=>Ak3 (of_decide_eq_true hok)
end Tp
end V
end Go.Proofs.YtlangijnealfjaaGreat
namespace Go.Proofs.YtlangijnealfjaaGreat
open Go.RowKit
namespace V
namespace Tp
open St
theorem is_works05:FnIs Tryz.prog (46,Tryz.f46):=⟨Tryz.func46,by kernel_rfl,by kernel_rfl⟩
abbrev V3:PureT:=Be [] [.b] (fun _=>true) (fun _=>(true,()))
noncomputable def plWk:List (Nat×PureT):=[(70,Ld),(27,Ayn),(105,To)]
theorem puWk:Ci Tryz.prog plWk:=puOk_cons Ja.plain Ns (puOk_cons is_set.plain B5c (puOk_cons is_lCheck.plain Q7 puOk_nil))
theorem Ag6:A7 Tryz.prog 46 V3:=A45 (Rq (u:=20) Am puWk Adm) 40 (fun _=>by kernel_rfl)
abbrev FTk:Type:=TCT cGr→TCT cSt→TkR
abbrev B0i (g:TCT cGr):Bool:=decide ((g.1.1.size:Int)≤B0 .i64)
abbrev B5d (F:FTk):PureT:=Be [cGr,cSt] [cSt,.sl cKn,cI] (fun x=>B0i x.1) (fun x=>B2a (F x.1 x.2.1))
end Tp
end V
end Go.Proofs.YtlangijnealfjaaGreat
