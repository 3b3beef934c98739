import Derived.Test.YtlangijnealfjaaGreatAb
import Derived.Test.YtlangijnealfjaaGreatCA
namespace Go.Proofs.YtlangijnealfjaaGreat
open Go.RowKit
namespace V
theorem is_cB1:FnIs Tryz.prog (107,Tryz.f107):=⟨Tryz.func107,by kernel_rfl,by kernel_rfl⟩
theorem is_vBall:FnIs Tryz.prog (106,Tryz.f106):=⟨Tryz.func106,by kernel_rfl,by kernel_rfl⟩
theorem is_ckBall:FnIs Tryz.prog (48,Tryz.f48):=⟨Tryz.func48,by kernel_rfl,by kernel_rfl⟩
def cbP (d:TCT A1):Bool:=u_ck d.1.1 d.1.2.1 != 0||!St.inR d.2.1 1 16384
abbrev Aql:PureT:=Bh [A1] [.b] (fun _=>true) (fun x=>(cbP x.1,()))
def plCb0:List (Nat×PureT):=[(70,Nu),(120,St.s_inR)]
theorem puCb0:Cd Tryz.prog plCb0:=puOk_cons Ha.plain Nv (puOk_cons St.is_between2.plain St.q_between2 puOk_nil)
theorem Avc:A6 Tryz.prog 107 Aql:=Bj (An Am puCb0 (A0 is_cB1 (A0 is_vBall A2))) 4 (fun x=>bif u_ck x.1.1.1 x.1.1.2.1 != 0 then .leaf (true,()) else .leaf (!St.inR x.1.2.1 1 16384,())) (fun x=>by kernel_rfl) fun x _ _=>by
 show (bif u_ck x.1.1.1 x.1.1.2.1 != 0 then Tree.leaf (true,()) else Tree.leaf (!St.inR x.1.2.1 1 16384,())).sat (fun y=>y=(u_ck x.1.1.1 x.1.1.2.1 != 0||!St.inR x.1.2.1 1 16384,()))
 cases u_ck x.1.1.1 x.1.1.2.1 != 0 <;> exact rfl
def plCb:List (Nat×PureT):=[(107,Aql)]
theorem puCb:Cd Tryz.prog plCb:=puOk_cons is_cB1.plain Avc puOk_nil
theorem is_ixDsc:FnIs Tryz.prog (58,Tryz.f58):=⟨Tryz.func58,by kernel_rfl,by kernel_rfl⟩
theorem is_cfDsc:FnIs Tryz.prog (41,Tryz.f41):=⟨Tryz.func41,by kernel_rfl,by kernel_rfl⟩
abbrev I2:List SK:=[]
def Ec (k:SKTs I2) (x:TCT (A1)):Bool:=cbP x
noncomputable def A1x:Code:=(Ah (bodyOf Tryz.f58)).getD 0 .skip
def Ix:Lay:={ keys:=[0,1,7,8],ks:=[.d (.sl (A1)),.f 107 [] I2,.d cI,.d cI],bs:=[],n:=19,nx:=1000,marks:=[] }
def Af9:Lay:={ keys:=[4],ks:=[.d cI],bs:=[],n:=19,nx:=1000,marks:=[] }
def Afa:Lay:={ keys:=[],ks:=[],bs:=[],n:=19,nx:=1000,marks:=[] }
def Hl:XE→Lay
 | .ret=>Af9
 | _=>Afa
def A1y (k:SKTs I2) (l:List (TCT (A1))) (n i:Int):Ix.T:=((l,((),k),n,i,()),())
def S1 (i:Int):A4 Hl:=⟨.ret,((i,()),())⟩
def S3:A4 Hl:=⟨.exit 0,((),())⟩
def Iy (k:SKTs I2) (l:List (TCT (A1))) (n:Int) (x:TCT (A1)) (i:Int):Tree (Ix.T⊕A4 Hl):=bif Ec k x then .leaf (.inr (S1 i)) else .leaf (.inl (A1y k l n (W64 (i+1))))
def Afb (k:SKTs I2) (l:List (TCT (A1))) (n i:Int):Tree (Ix.T⊕A4 Hl) :=
 bif decide (i<n) then bif decide (0≤i∧i<(l.length:Int)) then Iy k l n (A7 l i.toNat (A5 (A1))) i else .fail else .leaf (.inr S3)
def P5 (g:Ix.T):Tree (A4 Hl) :=
 .br (Ge g.1.2.2.1 g.1.2.2.2.1 g.1.1) (.br (g.1.1.any (Ec g.1.2.1.2)) (.leaf (S1 (g.1.1.findIdx (Ec g.1.2.1.2)))) (.leaf S3)) .fail
theorem Am2:Av Tryz.prog 58 A1x (Au Ix Hl P5):=by
 refine Ew (X:=ctx Tryz.prog plCb []) (An Am puCb A2) 7 58 (fun _=>none) (fun _ _ f h=>by simp at h) Ix Hl (fun e=>by cases e <;> exact Nat.le_refl _) P5 (fun g=>Afb g.1.2.1.2 g.1.1 g.1.2.2.1 g.1.2.2.2.1) (fun g=>by kernel_rfl) ?_
 rintro ⟨⟨l,⟨⟨⟩,k⟩,n,i,⟨⟩⟩,⟨⟩⟩ R hw hf
 obtain ⟨hf,h0⟩:=hf
 by_cases hc:n=(l.length:Int)∧i=0
 ·obtain ⟨rfl,rfl⟩:=hc
  have hf:=hf (decide_eq_true ⟨rfl,rfl⟩)
  refine Aei l (A5 (A1)) (Ej hw.1.1) (fun n i _=>A1y k l n i) (fun x i (_:Unit)=>bif Ec k x then .inr (S1 i) else .inl ()) (fun _=>S3) (fun _=>True) (fun x i _=>Iy k l l.length x i) (fun i _=>rfl) ?_ () trivial ?_
  ·intro i _ hi Q _ _ hw1 hQ
   show (Iy k l l.length l[i] i).sat Q
   unfold Iy
   rw [hw1]
   cases hp:Ec k l[i] with
   | true=>rw [hp] at hQ;exact hQ
   | false=>rw [hp] at hQ;exact hQ trivial
  ·rw [Jr (Ec k) (fun i=>S1 i) S3 l 0,Nat.zero_add]
   cases ha:l.any (Ec k) with
   | true=>exact hf.1 ha
   | false=>exact hf.2 ha
 ·exact (h0 (decide_eq_false hc)).elim
abbrev Am3:PureT:=Gl [.d (.sl (A1)),.f 107 [] I2] [cI] (fun _=>true) (fun x=>(bif x.1.any (Ec x.2.1.2) then (x.1.findIdx (Ec x.2.1.2):Int) else -1,()))
noncomputable def Am4:Ctx:=F8 Tryz.prog plCb [(58,Tryz.f58)] [((58,keyOf A1x),Au Ix Hl P5)]
theorem A69:CtxOk Am4:=Bt Am puCb (A0 is_ixDsc A2) (C3 rfl (by kernel_rfl) Am2)
def A93 (k:SKTs I2) (l:List (TCT (A1))):Tree (Int×Unit):=bif Ge (l.length:Int) 0 l then bif l.any (Ec k) then .leaf ((l.findIdx (Ec k):Int),()) else .leaf (-1,()) else .fail
theorem A6a (k:SKTs I2) (l:List (TCT (A1))):(A93 k l).sat (fun y=>y=(bif l.any (Ec k) then (l.findIdx (Ec k):Int) else -1,())):=by
 refine Im (decide_eq_true ⟨rfl,rfl⟩) ?_
 cases l.any (Ec k) <;> exact rfl
theorem Am5:A6 Tryz.prog 58 Am3:=K0 A69 8 (fun x=>A93 x.2.1.2 x.1) (fun x=>by kernel_rfl) fun x _ _=>A6a _ _
abbrev A94:PureT:=Gl [.d (.sl (A1)),.f 107 [] I2] [.b] (fun _=>true) (fun x=>(x.1.any (Ec x.2.1.2),()))
theorem A6b (k:SKTs I2) (l:List (TCT (A1))):(Tree.leaf (decide ((bif l.any (Ec k) then (l.findIdx (Ec k):Int) else -1)≥0),()):Tree (Bool×Unit)).sat (fun y=>y=(l.any (Ec k),())):=by
 rw [M1];exact rfl
theorem Am6:A6 Tryz.prog 41 A94:=K0 (An Am (puOk_cons is_ixDsc.plain Am5 puOk_nil) (A0 is_cfDsc A2)) 8 (fun x=>.leaf (decide ((bif x.1.any (Ec x.2.1.2) then (x.1.findIdx (Ec x.2.1.2):Int) else -1)≥0),())) (fun x=>by kernel_rfl) fun x _ _=>A6b _ _
def cbE (r:Int) (o:List (TCT A1)):Int:=bif !St.inR r 1 16384 then 3 else bif decide ((o.length:Int)>12) then 6 else bif o.any cbP then 2 else 0
abbrev A1z:PureT:=Bh [cI,.sl A1] [cI] (fun _=>true) (fun x=>(cbE x.1 x.2.1,()))
def plCb2:List (Nat×PureT):=[(120,St.s_inR),(41,A94)]
theorem puCb2:Cd Tryz.prog plCb2:=puOk_cons St.is_between2.plain St.q_between2 (puOk_cons is_cfDsc.plain Am6 puOk_nil)
def Sr (r:Int) (o:List (TCT A1)):Tree (TCTs [cI]):=bif !St.inR r 1 16384 then .leaf (3,()) else bif decide ((o.length:Int)>12) then .leaf (6,()) else bif o.any (Ec ()) then .leaf (2,()) else .leaf (0,())
theorem A20 (r:Int) (o:List (TCT A1)):(Sr r o).sat (fun y=>y=(cbE r o,())):=by
 unfold Sr cbE
 show (bif !St.inR r 1 16384 then .leaf (3,()) else bif decide ((o.length:Int)>12) then .leaf (6,()) else bif o.any cbP then .leaf (2,()) else .leaf (0,()):Tree (TCTs [cI])).sat _
 cases !St.inR r 1 16384 <;> cases decide ((o.length:Int)>12) <;> cases o.any cbP <;> exact rfl
theorem Afc:A6 Tryz.prog 48 A1z:=Bj (An Am puCb2 (A0 is_ckBall (A0 is_vBall A2))) 5 (fun x=>Sr x.1 x.2.1) (fun x=>by kernel_rfl) fun _ _ _=>A20 _ _
end V
end Go.Proofs.YtlangijnealfjaaGreat
namespace Go.Proofs.YtlangijnealfjaaGreat
open Go.RowKit
namespace V
open St
theorem is_InWay:FnIs Tryz.prog (14,Tryz.f14):=⟨Tryz.func14,by kernel_rfl,by kernel_rfl⟩
theorem is_InWay1:FnIs Tryz.prog (49,Tryz.f49):=⟨Tryz.func49,by kernel_rfl,by kernel_rfl⟩
theorem is_Touched:FnIs Tryz.prog (60,Tryz.f60):=⟨Tryz.func60,by kernel_rfl,by kernel_rfl⟩
theorem is_May:FnIs Tryz.prog (23,Tryz.f23):=⟨Tryz.func23,by kernel_rfl,by kernel_rfl⟩
abbrev kP6:List SK:=[.d cI,.d cI]
abbrev Cp (p:SKTs kP6):TCT cPt:=(p.1,p.2.1,())
def iwD (a b:TCT cPt) (r:Int) (d:TCT A1):Bool:=decide ((LsR a.1 a.2.1 b.1 b.2.1 d.1.1 d.1.2.1 (W64 (r+d.2.1))).1<0)
def iwF (p:TCT A1→Bool):List (TCT A1)→Int→List Int
 | [],_=>[]
 | d::ds,i=>bif p d then i::iwF p ds (i+1) else iwF p ds (i+1)
noncomputable def Avd:Code:=(Ah (bodyOf Tryz.f14)).getD 0 .skip
def Ayd:List BK:=[(1,28,kP6),(2,28,kP6),(3,2,[.d cI])]
def A21:Lay:={ keys:=[14,15,37,38,39],ks:=[.f 49 [] [.p 1 0 0 0,.p 2 0 0 0,.p 3 0 0 0],.o 3 cI,.d (.sl A1),.d cI,.d cI],bs:=Ayd,n:=53,nx:=1000,marks:=[] }
def Aye:Lay:={ keys:=[15],ks:=[.o 3 cI],bs:=[],n:=53,nx:=1000,marks:=[] }
def A6c:XE→Lay:=fun _=>Aye
structure QIw where
 a:SKTs kP6
 b:SKTs kP6
 r:SKTs [.d cI]
 n:Int
 ds:List (TCT A1)
def A22 (q:QIw) (i:Int) (o:List Int):A21.T:=((((),(),(),(),()),o,q.ds,q.n,i,()),(q.a,q.b,q.r,()))
def A23 (o:List Int):A4 A6c:=⟨.exit 0,((o,()),())⟩
def A24 (q:QIw) (i:Int) (o:List Int):Tree (A21.T⊕A4 A6c) :=
 bif decide (i<q.n) then bif decide (0≤i∧i<(q.ds.length:Int)) then bif iwD (Cp q.a) (Cp q.b) q.r.1 (A7 q.ds (Int.toNat i) (A5 A1)) then bif Dy o [i] 8 then .leaf (.inl (A22 q (W64 (i+1)) (o++[i]))) else .fail else .leaf (.inl (A22 q (W64 (i+1)) o)) else .fail else .leaf (.inr (A23 o))
def X6 (x:A21.T):Tree (A21.T⊕A4 A6c):=A24 ⟨x.2.1,x.2.2.1,x.2.2.2.1,x.1.2.2.2.1,x.1.2.2.1⟩ x.1.2.2.2.2.1 x.1.2.1
def Afd (x:A21.T):Nat:=(x.1.2.2.1:List (TCT A1)).length+1
noncomputable def Ave:Ctx:=ctx Tryz.prog [(50,Af2)] [(49,Tryz.f49)]
theorem Afe:CtxOk Ave:=An Am (puOk_cons is_Lies.plain As7 puOk_nil) (A0 is_InWay1 A2)
theorem Ayf:Av Tryz.prog 14 Avd (Au A21 A6c (D5 [.exit 0] X6 Afd)):=Bu Afe 7 _ A21 A6c (fun _=>Nat.le_refl _) [.exit 0] X6 Afd (fun g=>by kernel_rfl)
theorem A95 {E:Type} (p:TCT A1→Bool) (ex:List Int→E):∀ (l:List (TCT A1)) (i:Nat) (s:List Int),N8 (fun i x s=>some (.inl (bif p x then s++[(i:Int)] else s))) (fun s=>some (ex s)) i l s=some (ex (s++iwF p l (i:Int)))
 | [],_,s=>by simp only [N8,iwF,List.append_nil]
 | x::l,i,s=>by
  simp only [N8]
  rw [A95 p ex l (i+1)]
  rw [show ((i+1:Nat):Int)=(i:Int)+1 from rfl,show iwF p (x::l) (i:Int)=(bif p x then (i:Int)::iwF p l ((i:Int)+1) else iwF p l ((i:Int)+1)) from rfl]
  cases p x with
  | true=>simp only [cond_true,List.append_assoc,List.singleton_append]
  | false=>simp only [cond_false]
theorem Ayg {o:List Int} {i:Int} (h:o.length≤100000):Dy o [i] 8=true:=by
 rw [F2];exact decide_eq_true (by simp only [List.length_cons,List.length_nil];omega)
theorem Avf {q:QIw} (hn:q.n=(q.ds.length:Int)) (hl:q.ds.length≤60000):iter X6 (q.ds.length+1) (A22 q 0 [])=some (A23 (iwF (iwD (Cp q.a) (Cp q.b) q.r.1) q.ds 0)):=by
 have key:=Dp (st:=X6) q.ds (fun i o=>A22 q (i:Int) o) (fun i x o=>some (.inl (bif iwD (Cp q.a) (Cp q.b) q.r.1 x then o++[(i:Int)] else o))) (fun o=>some (A23 o)) (fun i o=>o.length≤i)
  (fun i o hi hI=>by
   simp only
   refine ⟨?_,?_⟩
   ·show (A24 q (i:Int) o).run=_
    unfold A24
    rw [hn,decide_eq_true (show (i:Int)<(q.ds.length:Int) by omega),decide_eq_true (show 0≤(i:Int)∧(i:Int)<(q.ds.length:Int) by omega),show Int.toNat (i:Int)=i by omega,C7 hi,B6 (n:=(i:Int)+1) (by omega) (by omega),Ayg (by omega)]
    simp only [cond_true]
    cases iwD (Cp q.a) (Cp q.b) q.r.1 q.ds[i] <;> rfl
   ·cases iwD (Cp q.a) (Cp q.b) q.r.1 q.ds[i] with
    | true=>simp only [cond_true,List.length_append,List.length_singleton];omega
    | false=>simp only [cond_false];omega)
  (fun o e hI he=>by
   cases he
   show (A24 q (q.ds.length:Int) o).run=_
   unfold A24
   rw [hn,decide_eq_false (show ¬ (q.ds.length:Int)<(q.ds.length:Int) by omega)]
   rfl)
  q.ds.length 0 [] (A23 (iwF (iwD (Cp q.a) (Cp q.b) q.r.1) q.ds 0)) (q.ds.length+1) (by omega) (by omega) (Nat.zero_le _) (by rw [List.drop_zero,A95,List.nil_append];rfl)
 exact key
def H5 (l:TCT Aq) (a b:TCT cPt) (r:Int) (o:List (TCT A1)):Int:=bif Di l != 0 then Di l else bif u_ck a.1 a.2.1 != 0 then 2 else bif u_ck b.1 b.2.1 != 0 then 2 else cbE r o
def Mh (l:TCT Aq) (a b:TCT cPt) (r:Int) (o:List (TCT A1)):List Int:=bif H5 l a b r o==0 then iwF (iwD a b r) (B7 l++o) 0 else []
abbrev Am7:PureT:=Bh [Aq,cPt,cPt,cI,.sl A1] [.sl cI,cI] (fun x=>decide ((x.1.1.size:Int)≤Aw .i64)) (fun x=>(Mh x.1 x.2.1 x.2.2.1 x.2.2.2.1 x.2.2.2.2.1,H5 x.1 x.2.1 x.2.2.1 x.2.2.2.1 x.2.2.2.2.1,()))
def plIw:List (Nat×PureT):=(105,Qq)::(52,J2)::(70,Nu)::(48,A1z)::(51,A1w)::[]
theorem puIw:Cd Tryz.prog plIw:=puOk_cons is_lCheck.plain Nr (puOk_cons is_lposts.plain A06 (puOk_cons Ha.plain Nv (puOk_cons is_ckBall.plain Afc (puOk_cons is_Concat.plain Af8 puOk_nil))))
abbrev TIw:=Tree (TCTs [.sl cI,cI])
def As8 (a b:TCT cPt) (r:Int) (ds:List (TCT A1)):Option (A4 A6c):=iter X6 (ds.length+1) (A22 ⟨a,b,(r,()),(ds.length:Int),ds⟩ 0 [])
def Am8 (l:TCT Aq) (a b:TCT cPt) (r:Int) (o:List (TCT A1)):TIw:=bif cbE r o != 0 then .leaf ([],cbE r o,()) else bif decide ((As l).length≤1000) then bif cc2 [B7 l,o] then bif isE (.exit 0) (As8 a b r (ccV [B7 l,o])) then .leaf ((D4 (.exit 0) (As8 a b r (ccV [B7 l,o]))).1.1,0,()) else .fail else .fail else .fail
def As9 (l:TCT Aq) (a b:TCT cPt) (r:Int) (o:List (TCT A1)):TIw:=szT l (bif Di l != 0 then bif Di l != 0 then .leaf ([],Di l,()) else Am8 l a b r o else bif u_ck a.1 a.2.1 != 0 then .leaf ([],2,()) else bif u_ck b.1 b.2.1 != 0 then .leaf ([],2,()) else Am8 l a b r o)
noncomputable def Ayh:Ctx:=F8 Tryz.prog plIw [(14,Tryz.f14),(47,Tryz.f47)] [((14,10),Au A21 A6c (D5 [.exit 0] X6 Afd))]
theorem Am9:CtxOk Ayh:=Bt Am puIw (A0 is_InWay (A0 is_lchk A2)) (B5 (C3 (by kernel_rfl) (by kernel_rfl) Ayf (14,Tryz.f14) (List.mem_singleton.2 rfl)) (B5 (fun d _ g hg=>nomatch (show none=some g from hg)) Gv))
theorem Aff {l:TCT Aq} (h:Di l=0):(B7 l).length≤25:=by
 have:=(Ti h).1
 unfold B7
 rw [List.length_append,No]
 simp only [List.length_singleton]
 omega
theorem Asa {r:Int} {o:List (TCT A1)} (h:cbE r o=0):o.length≤12:=by
 unfold cbE at h
 cases h1:!St.inR r 1 16384 with
 | true=>rw [h1] at h;cases h
 | false =>
  cases h2:decide ((o.length:Int)>12) with
  | true=>rw [h1,h2] at h;cases h
  | false =>
   have:=of_decide_eq_false h2
   omega
theorem Ama {l:TCT Aq} {a b:TCT cPt} {r:Int} {o:List (TCT A1)} (h:Di l=0) (ha:u_ck a.1 a.2.1=0) (hb:u_ck b.1 b.2.1=0):(Am8 l a b r o).sat (fun y=>y=(Mh l a b r o,H5 l a b r o,())):=by
 have e:H5 l a b r o=cbE r o:=by unfold H5;rw [h,ha,hb];rfl
 unfold Am8 Mh
 rw [e]
 have h12:=(Ti h).1
 have hp:=Aff h
 cases hc:cbE r o != 0 with
 | true =>
  have hc':(cbE r o==0)=false:=by simpa using hc
  rw [hc']
  exact A8 rfl
 | false =>
  have hc':=bne_eq_false_iff_eq.1 hc
  have hl:=Asa hc'
  rw [cond_false,decide_eq_true (show (As l).length≤1000 by omega),show cc2 [B7 l,o]=true from decide_eq_true (show (B7 l).length+o.length≤60000 by omega),cond_true,cond_true]
  have hv:ccV [B7 l,o]=B7 l++o:=rfl
  have hll:(B7 l++o).length≤60000:=by rw [List.length_append];omega
  have hy:As8 a b r (ccV [B7 l,o])=some (A23 (iwF (iwD a b r) (B7 l++o) 0)):=by
   rw [hv]
   exact Avf (q:=⟨a,b,(r,()),((B7 l++o).length:Int),B7 l++o⟩) rfl hll
  rw [hy,hc']
  exact A8 rfl
theorem Amb {l:TCT Aq} {a b:TCT cPt} {r:Int} {o:List (TCT A1)} (hs:(l.1.size:Int)≤Aw .i64):(As9 l a b r o).sat (fun y=>y=(Mh l a b r o,H5 l a b r o,())):=by
 unfold As9
 rw [Dw hs]
 cases h:Di l != 0 with
 | true =>
  have e:H5 l a b r o=Di l:=by unfold H5;rw [h];rfl
  have h':(Di l==0)=false:=by simpa using h
  unfold Mh
  rw [e,h']
  exact A8 rfl
 | false =>
  have h':=bne_eq_false_iff_eq.1 h
  rw [cond_false]
  cases ha:u_ck a.1 a.2.1 != 0 with
  | true =>
   have e:H5 l a b r o=2:=by unfold H5;rw [h,ha];rfl
   unfold Mh
   rw [e]
   exact A8 rfl
  | false =>
   rw [cond_false]
   cases hb:u_ck b.1 b.2.1 != 0 with
   | true =>
    have e:H5 l a b r o=2:=by unfold H5;rw [h,ha,hb];rfl
    unfold Mh
    rw [e]
    exact A8 rfl
   | false=>exact Ama h' (bne_eq_false_iff_eq.1 ha) (bne_eq_false_iff_eq.1 hb)
theorem A96:A6 Tryz.prog 14 Am7:=Bj Am9 10 (fun x=>As9 x.1 x.2.1 x.2.2.1 x.2.2.2.1 x.2.2.2.2.1) (fun x=>by kernel_rfl) fun x hok _=>Amb (of_decide_eq_true hok)
abbrev Ac8:PureT:=Bh [Aq,cPt,cI,.sl A1] [.sl cI,cI] (fun x=>decide ((x.1.1.size:Int)≤Aw .i64)) (fun x=>(Mh x.1 x.2.1 x.2.1 x.2.2.1 x.2.2.2.1,H5 x.1 x.2.1 x.2.1 x.2.2.1 x.2.2.2.1,()))
theorem Ac9:A6 Tryz.prog 60 Ac8:=Bj (An Am (puOk_cons is_InWay.plain A96 puOk_nil) (A0 is_Touched A2)) 5 (fun x=>szT x.1 (.leaf (Mh x.1 x.2.1 x.2.1 x.2.2.1 x.2.2.2.1,H5 x.1 x.2.1 x.2.1 x.2.2.1 x.2.2.2.1,()))) (fun x=>by kernel_rfl) fun x hok _=>by
  rw [Dw (of_decide_eq_true hok)];exact A8 rfl
def mayE (l:TCT Aq) (p:TCT cPt) (r:Int) (o:List (TCT A1)):Int:=H5 l p p r o
def mayB (l:TCT Aq) (p:TCT cPt) (r:Int) (o:List (TCT A1)):Bool:=bif H5 l p p r o != 0 then false else ((Mh l p p r o).length:Int)==0&&onB l p
abbrev Afg:PureT:=Bh [Aq,cPt,cI,.sl A1] [.b,cI] (fun x=>decide ((x.1.1.size:Int)≤Aw .i64)) (fun x=>(mayB x.1 x.2.1 x.2.2.1 x.2.2.2.1,mayE x.1 x.2.1 x.2.2.1 x.2.2.2.1,()))
abbrev Ayi:=Tree (TCTs [.b,cI])
def Afh (l:TCT Aq) (p:TCT cPt) (r:Int) (o:List (TCT A1)):Ayi:=szT l (bif H5 l p p r o != 0 then .leaf (false,H5 l p p r o,()) else bif ((Mh l p p r o).length:Int)==0 then bif St.inR p.1 0 l.2.1 then .leaf (St.inR p.2.1 0 l.2.2.1,0,()) else .leaf (false,0,()) else .leaf (false,0,()))
theorem Afi {l:TCT Aq} {p:TCT cPt} {r:Int} {o:List (TCT A1)} (hs:(l.1.size:Int)≤Aw .i64):(Afh l p r o).sat (fun y=>y=(mayB l p r o,mayE l p r o,())):=by
 unfold Afh mayB mayE
 rw [Dw hs]
 cases h:H5 l p p r o != 0 with
 | true=>exact A8 rfl
 | false =>
  have h':=bne_eq_false_iff_eq.1 h
  rw [h']
  cases ((Mh l p p r o).length:Int)==0 with
  | false=>exact A8 rfl
  | true =>
   unfold onB
   cases St.inR p.1 0 l.2.1 <;> exact A8 rfl
theorem Aqm:A6 Tryz.prog 23 Afg:=Bj (An Am (puOk_cons is_Touched.plain Ac9 (puOk_cons is_between2.plain q_between2 puOk_nil)) (A0 is_May (A0 is_lon A2))) 5 (fun x=>Afh x.1 x.2.1 x.2.2.1 x.2.2.2.1) (fun x=>by kernel_rfl) fun x hok _=>Afi (of_decide_eq_true hok)
end V
end Go.Proofs.YtlangijnealfjaaGreat
namespace Go.Proofs.YtlangijnealfjaaGreat
open Go.RowKit
namespace V
namespace Tp
open St
theorem is_green:FnIs Tryz.prog (8,Tryz.f8):=⟨Tryz.func8,by kernel_rfl,by kernel_rfl⟩
theorem is_round:FnIs Tryz.prog (21,Tryz.f21):=⟨Tryz.func21,by kernel_rfl,by kernel_rfl⟩
theorem is_spot:FnIs Tryz.prog (9,Tryz.f9):=⟨Tryz.func9,by kernel_rfl,by kernel_rfl⟩
theorem is_set:FnIs Tryz.prog (27,Tryz.f27):=⟨Tryz.func27,by kernel_rfl,by kernel_rfl⟩
abbrev Avg:TC:=.i .u16
abbrev Dm:TC:=.st [Avg,Avg]
def Aqn:TCT Bg:=(50000,40000,6000,500,false,())
def Aqo:TCT Bg:=(30000,100000,6200,500,true,())
def Ayj:TCT A1:=((50000,100000,()),1200,())
def nameG:ByteArray:=⟨#[103,114,101,101,110]⟩
def grn (d s:Int):TCT Aq:=(nameG,100000,200000,5000,[Aqn,Aqo],Ayj,1,1,[(d,s,0,())],())
abbrev Zw:PureT:=Bh [cI,cI] [Aq] (fun _=>true) (fun x=>(grn x.1 x.2.1,()))
theorem A97:A6 Tryz.prog 8 Zw:=Bj (An Am puOk_nil (A0 is_green A2)) 5 (fun x=>.leaf (grn x.1 x.2.1,())) (fun x=>by kernel_rfl) fun _ _ _=>A8 rfl
def P6:TCT Bo:=(450,2946,())
abbrev A98:PureT:=Bh [] [Bo] (fun _=>true) (fun _=>(P6,()))
theorem Amc:A6 Tryz.prog 21 A98:=Bj (An Am puOk_nil (A0 is_round A2)) 5 (fun x=>.leaf (P6,())) (fun x=>by kernel_rfl) fun _ _ _=>A8 rfl
def spt (d:TCT Dm):TCT cPt:=(W64 (Int.tdiv (W64 (W64 d.1*3)) 2),W64 (W64 d.2.1*3),())
abbrev Zx:PureT:=Bh [Dm] [cPt] (fun _=>true) (fun x=>(spt x.1,()))
theorem A6d:A6 Tryz.prog 9 Zx:=Bj (An Am puOk_nil (A0 is_spot A2)) 5 (fun x=>.leaf (spt x.1,())) (fun x=>by kernel_rfl) fun _ _ _=>A8 rfl
end Tp
end V
end Go.Proofs.YtlangijnealfjaaGreat
namespace Go.Proofs.YtlangijnealfjaaGreat
open Go.RowKit
namespace V
namespace Tp
open St
abbrev kGb:List SK:=[.d .s,.d cI,.d cI,.d cI,.d (.sl Bg),.d cI,.d cI,.d cI,.d cI,.d cI,.d (.sl Dh),.o 68 Bo,.d cI,.d cI]
noncomputable def Asb:Code:=(Ah (bodyOf Tryz.f27)).getD 0 .skip
def Aqp:List BK:=[(1,64,kGr),(2,76,kSt),(8,64,kGb)]
def Ng:Lay:={ keys:=[2,8,9,11,12,13,14],ks:=[.d (.sl Dm),.p 1 0 0 0,.p 2 0 0 0,.p 8 0 0 0,.o 28 cPt,.o 30 A1,.d cI],bs:=Aqp,n:=97,nx:=1000,marks:=[] }
def Avh:Lay:={ keys:=[2,8,9,11,12],ks:=[.d (.sl Dm),.p 1 0 0 0,.p 2 0 0 0,.p 8 0 0 0,.o 28 cPt],bs:=Aqp,n:=97,nx:=1000,marks:=[] }
def Asd:Lay:={ keys:=[8,9,10],ks:=[.p 1 0 0 0,.p 2 0 0 0,.d .b],bs:=[(1,64,kGb),(2,76,kSt)],n:=97,nx:=1000,marks:=[] }
def K7:XE→Lay:=fun e=>match e with | .ret=>Asd | _=>Avh
def plSet5:List (Nat×PureT):=(23,Afg)::(8,Zw)::(21,A98)::(9,Zx)::(24,Ar3)::[]
theorem puSet5:Cd Tryz.prog plSet5:=puOk_cons is_May.plain Aqm (puOk_cons is_green.plain A97 (puOk_cons is_round.plain Amc (puOk_cons is_spot.plain A6d (puOk_cons is_sLie.plain Aww puOk_nil))))
noncomputable def Ase:Ctx:=ctx Tryz.prog plSet5 []
theorem Aca:CtxOk Ase:=An Am puSet5 A2
abbrev GbT:Type:=SKTs kGb
def lwb (g:GbT):TCT Aq:=(g.1,g.2.1,g.2.2.1,g.2.2.2.1,g.2.2.2.2.1,((g.2.2.2.2.2.1,g.2.2.2.2.2.2.1,()),g.2.2.2.2.2.2.2.1,()),g.2.2.2.2.2.2.2.2.1,g.2.2.2.2.2.2.2.2.2.1,g.2.2.2.2.2.2.2.2.2.2.1,())
def blb (g:GbT):List (TCT Bo):=g.2.2.2.2.2.2.2.2.2.2.2.1
def wbl (g:GbT) (b:List (TCT Bo)):GbT:=(g.1,g.2.1,g.2.2.1,g.2.2.2.1,g.2.2.2.2.1,g.2.2.2.2.2.1,g.2.2.2.2.2.2.1,g.2.2.2.2.2.2.2.1,g.2.2.2.2.2.2.2.2.1,g.2.2.2.2.2.2.2.2.2.1,g.2.2.2.2.2.2.2.2.2.2.1,b,g.2.2.2.2.2.2.2.2.2.2.2.2.1,g.2.2.2.2.2.2.2.2.2.2.2.2.2.1,())
structure QSt where
 l:List (TCT Dm)
 g0:SKTs kGr
 s0:SKTs kSt
def K8 (p:TCT cPt):TCT A1:=((p.1,p.2.1,()),2946,())
def Zy (q:QSt) (g:GbT) (i:Int) (ps:List (TCT cPt)) (os:List (TCT A1)):Ng.T:=((q.l,(),(),(),ps,os,i,()),(q.g0,q.s0,g,()))
def Zz (q:QSt) (g:GbT) (ps:List (TCT cPt)):A4 K7:=⟨.exit 0,((q.l,(),(),(),ps,()),(q.g0,q.s0,g,()))⟩
def A6e (g:GbT):A4 K7:=⟨.ret,(((),(),false,()),(g,([],[],0,0,0,()),()))⟩
def A6f (q:QSt) (g:GbT) (i:Int) (ps:List (TCT cPt)) (os:List (TCT A1)) (p:TCT cPt):Tree (Ng.T⊕A4 K7) :=
 bif mayE (lwb g) p 2946 os != 0 then .leaf (.inr (A6e g)) else bif !mayB (lwb g) p 2946 os then .leaf (.inr (A6e g)) else
 bif Dy (blb g) [P6] 16 then bif Dy ps [p] 16 then bif Dy os [K8 p] 24 then .leaf (.inl (Zy q (wbl g (blb g++[P6])) (W64 (i+1)) (ps++[p]) (os++[K8 p]))) else .fail else .fail else .fail
def Ss (q:QSt) (g:GbT) (i:Int) (ps:List (TCT cPt)) (os:List (TCT A1)):Tree (Ng.T⊕A4 K7) :=
 bif decide (i<(q.l.length:Int)) then inN q.l.length i (szT (lwb g) (A6f q g i ps os (spt (A7 q.l (Int.toNat i) (A5 Dm))))) else .leaf (.inr (Zz q g ps))
def P7 (x:Ng.T):Tree (Ng.T⊕A4 K7):=Ss ⟨x.1.1,x.2.1,x.2.2.1⟩ x.2.2.2.1 x.1.2.2.2.2.2.2.1 x.1.2.2.2.2.1 x.1.2.2.2.2.2.1
def A6g (x:Ng.T):Nat:=(x.1.1:List (TCT Dm)).length+1
theorem Avi:Av Tryz.prog 27 Asb (Au Ng K7 (D5 [.ret,.exit 0] P7 A6g)):=Bu Aca 7 _ Ng K7 (fun e=>by cases e <;> exact Nat.le_refl _) [.ret,.exit 0] P7 A6g (fun g=>by kernel_rfl)
def setF (w:TCT Aq) (l:List (TCT Dm)) (i:Nat) (ps:List (TCT cPt)):List (TCT cPt)⊕List (TCT cPt) :=
 bif mayE w (spt (A7 l i (A5 Dm))) 2946 (ps.map K8)!=0 then .inr ps else bif !mayB w (spt (A7 l i (A5 Dm))) 2946 (ps.map K8) then .inr ps else .inl (ps++[spt (A7 l i (A5 Dm))])
def gbN (g:GbT) (n:Nat):GbT:=wbl g (List.replicate n P6)
def Su (q:QSt) (g:GbT):List (TCT cPt)⊕List (TCT cPt)→A4 K7
 | .inl ps=>Zz q (gbN g ps.length) ps
 | .inr ps=>A6e (gbN g ps.length)
theorem Asf {q:QSt} {g:GbT} (hl:q.l.length≤1000) (hs:((lwb g).1.size:Int)≤Aw .i64):iter P7 (q.l.length+1) (Zy q (gbN g 0) 0 [] [])=some (Su q g (M7 (setF (lwb g) q.l) 0 q.l.length [])):=by
 have key:=A71 (st:=P7) q.l.length (fun i ps=>Zy q (gbN g i) (i:Int) ps (ps.map K8)) (setF (lwb g) q.l) (Su q g) (fun i ps=>ps.length=i)
  (fun i ps hi hI=>by
   show (Ss q (gbN g i) (i:Int) ps (ps.map K8)).run=_
   unfold Ss inN
   rw [decide_eq_true (show (i:Int)<(q.l.length:Int) by omega),decide_eq_true (show 0≤(i:Int)∧(i:Int)<(q.l.length:Int) by omega),show Int.toNat (i:Int)=i by omega]
   show (szT (lwb g) (A6f q (gbN g i) (i:Int) ps (ps.map K8) (spt (A7 q.l i (A5 Dm)))):Tree _).run=_
   rw [Dw hs]
   unfold A6f setF
   rw [show lwb (gbN g i)=lwb g from rfl]
   generalize spt (A7 q.l i (A5 Dm))=p
   cases mayE (lwb g) p 2946 (ps.map K8)!=0 with
   | true=>simp only [cond_true,Ahz,Su,hI];rfl
   | false =>
    cases !mayB (lwb g) p 2946 (ps.map K8) with
    | true=>simp only [cond_true,cond_false,Ahz,Su,hI];rfl
    | false =>
     rw [B6 (n:=(i:Int)+1) (by omega) (by omega)]
     have e1:Dy (blb (gbN g i)) [P6] 16=true:=by
      rw [F2];exact decide_eq_true (by show (((List.replicate i P6).length+[P6].length:Nat):Int)*16≤_;rw [List.length_replicate];simp only [List.length_singleton];omega)
     have e2:Dy ps [p] 16=true:=by rw [F2];exact decide_eq_true (by simp only [List.length_singleton];omega)
     have e3:Dy (ps.map K8) [K8 p] 24=true:=by rw [F2];exact decide_eq_true (by simp only [List.length_singleton,List.length_map];omega)
     have e4:wbl (gbN g i) (blb (gbN g i)++[P6])=gbN g (i+1):=by
      show wbl g (List.replicate i P6++[P6])=wbl g (List.replicate (i+1) P6)
      rw [List.replicate_succ']
     have e5:ps.map K8++[K8 p]=(ps++[p]).map K8:=by rw [List.map_append];rfl
     rw [e1,e2,e3,e4,e5]
     rfl)
  (fun i ps ps' _ hI h=>by
   unfold setF at h
   cases h1:mayE (lwb g) (spt (A7 q.l i (A5 Dm))) 2946 (ps.map K8)!=0 with
   | true=>rw [h1] at h;cases h
   | false =>
    cases h2:!mayB (lwb g) (spt (A7 q.l i (A5 Dm))) 2946 (ps.map K8) with
    | true=>rw [h1,h2] at h;cases h
    | false =>
     rw [h1,h2] at h
     cases h
     rw [List.length_append,List.length_singleton,hI])
  (fun ps hI=>by
   show (Ss q (gbN g q.l.length) (q.l.length:Int) ps (ps.map K8)).run=_
   unfold Ss
   rw [decide_eq_false (show ¬ (q.l.length:Int)<(q.l.length:Int) by omega)]
   show some (Sum.inr (Zz q (gbN g q.l.length) ps))=some (Sum.inr (Zz q (gbN g ps.length) ps))
   rw [hI]) q.l.length 0 [] (by omega) rfl
 exact key
noncomputable def Afj:Ctx:=F8 Tryz.prog plSet5 [(27,Tryz.f27)] [((27,5),Au Ng K7 (D5 [.ret,.exit 0] P7 A6g))]
theorem Afk:CtxOk Afj:=Bt Am puSet5 (A0 is_set A2) (C3 (by kernel_rfl) (by kernel_rfl) Avi)
def gb0 (d s:Int) (x:TCT Rs):GbT:=(nameG,100000,200000,5000,[Aqn,Aqo],50000,100000,1200,1,1,[(d,s,0,())],[],x.1,x.2.1,())
def g00:SKTs kGr:=(⟨#[]⟩,0,0,0,[],0,0,0,0,0,[],[],0,0,())
def s00:SKTs kSt:=([],[],0,0,0,())
def A99 (d s:Int) (l:List (TCT Dm)) (x:TCT Rs):Option (A4 K7):=iter P7 (l.length+1) (Zy ⟨l,g00,s00⟩ (gb0 d s x) 0 [] [])
abbrev Amd:=Tree (TCTs [cGr,cSt,.b])
def grb (g:GbT):TCT cGr:=(lwb g,blb g,(g.2.2.2.2.2.2.2.2.2.2.2.2.1,g.2.2.2.2.2.2.2.2.2.2.2.2.2.1,()),())
def Asg (l:List (TCT Dm)) (r:TCTs [cSt,cI]):Bool:=r.2.1==0&&(((msT r.1).length:Int)==(l.length:Int)&&((osT r.1).length:Int)==(l.length:Int))
def Afl (l:List (TCT Dm)) (g:GbT) (r:TCTs [cSt,cI]):Amd:=bif r.2.1==0 then bif ((msT r.1).length:Int)==(l.length:Int) then .leaf (grb g,St.etaS r.1,((osT r.1).length:Int)==(l.length:Int),()) else .leaf (grb g,St.etaS r.1,false,()) else .leaf (grb g,St.etaS r.1,false,())
def Afm (g:GbT) (l:List (TCT Dm)) (ps:List (TCT cPt)):Amd:=szT (lwb g) (Afl l g (Hj (grb g) ps))
def Afn (y:Option (A4 K7)):Amd:=bif isE .ret y then .leaf (grb (D4 .ret y).2.1,(D4 .ret y).2.2.1,(D4 .ret y).1.2.2.1,()) else bif isE (.exit 0) y then Afm (D4 (.exit 0) y).2.2.2.1 (D4 (.exit 0) y).1.1 (D4 (.exit 0) y).1.2.2.2.2.1 else .fail
theorem Afo (x:TCTs [cI,cI,.sl Dm,Rs]):Ck Afj 7 (.fn 27) (Cs [cI,cI,.sl Dm,Rs] x) Bs 0 (Fq Afj.P [cGr,cSt,.b])=Afn (A99 x.1 x.2.1 x.2.2.1 x.2.2.2.1):=by kernel_rfl
def gN (d s:Int) (x:TCT Rs) (n:Nat):TCT cGr:=(grn d s,List.replicate n P6,(x.1,x.2.1,()),())
abbrev Ame:Type:=List (TCT cPt)⊕List (TCT cPt)
def A25 (d s:Int) (l:List (TCT Dm)):Ame:=M7 (setF (grn d s) l) 0 l.length []
def sN:Ame→Nat
 | .inl p=>p.length
 | .inr p=>p.length
def sS (d s:Int) (x:TCT Rs):Ame→TCT cSt
 | .inl p=>St.etaS (Hj (gN d s x p.length) p).1
 | .inr _=>zS
def sB (d s:Int) (x:TCT Rs) (l:List (TCT Dm)):Ame→Bool
 | .inl p=>Asg l (Hj (gN d s x p.length) p)
 | .inr _=>false
abbrev Aqq:PureT:=Bh [cI,cI,.sl Dm,Rs] [cGr,cSt,.b] (fun x=>decide (x.2.2.1.length≤1000)) (fun x=>(gN x.1 x.2.1 x.2.2.2.1 (sN (A25 x.1 x.2.1 x.2.2.1)),sS x.1 x.2.1 x.2.2.2.1 (A25 x.1 x.2.1 x.2.2.1),sB x.1 x.2.1 x.2.2.2.1 x.2.2.1 (A25 x.1 x.2.1 x.2.2.1),()))
theorem A26 (d s:Int):((grn d s).1.size:Int)≤Aw .i64:=by
 show ((nameG.size:Nat):Int)≤_
 decide
theorem Afp {d s:Int} {l:List (TCT Dm)} {x:TCT Rs} (hl:l.length≤1000):(Afn (A99 d s l x)).sat (fun y=>y=(gN d s x (sN (A25 d s l)),sS d s x (A25 d s l),sB d s x l (A25 d s l),())):=by
 have e:A99 d s l x=some (Su ⟨l,g00,s00⟩ (gb0 d s x) (A25 d s l)):=Asf (q:=⟨l,g00,s00⟩) (g:=gb0 d s x) hl (A26 d s)
 rw [e]
 cases A25 d s l with
 | inr ps=>exact A8 rfl
 | inl ps =>
  show (Afm (gbN (gb0 d s x) ps.length) l ps).sat _
  unfold Afm
  rw [Dw (show (((lwb (gbN (gb0 d s x) ps.length)).1.size:Nat):Int)≤_ from A26 d s)]
  show (Afl l (gbN (gb0 d s x) ps.length) (Hj (gN d s x ps.length) ps)).sat _
  unfold Afl
  show (bif (Hj (gN d s x ps.length) ps).2.1==0 then bif ((msT (Hj (gN d s x ps.length) ps).1).length:Int)==(l.length:Int) then .leaf (gN d s x ps.length,St.etaS (Hj (gN d s x ps.length) ps).1,((osT (Hj (gN d s x ps.length) ps).1).length:Int)==(l.length:Int),()) else .leaf (gN d s x ps.length,St.etaS (Hj (gN d s x ps.length) ps).1,false,()) else .leaf (gN d s x ps.length,St.etaS (Hj (gN d s x ps.length) ps).1,false,()):Amd).sat (fun y=>y=(gN d s x ps.length,St.etaS (Hj (gN d s x ps.length) ps).1,Asg l (Hj (gN d s x ps.length) ps),()))
  unfold Asg
  cases (Hj (gN d s x ps.length) ps).2.1==0 <;> cases ((msT (Hj (gN d s x ps.length) ps).1).length:Int)==(l.length:Int) <;> exact A8 rfl
theorem Avj:A6 Tryz.prog 27 Aqq:=Bj Afk 7 (fun x=>Afn (A99 x.1 x.2.1 x.2.2.1 x.2.2.2.1)) Afo fun x hok _=>Afp (of_decide_eq_true hok)
end Tp
end V
end Go.Proofs.YtlangijnealfjaaGreat
namespace Go.Proofs.YtlangijnealfjaaGreat
open Go.RowKit
namespace V
namespace Tp
open St
theorem is_works05:FnIs Tryz.prog (46,Tryz.f46):=⟨Tryz.func46,by kernel_rfl,by kernel_rfl⟩
abbrev Iz:PureT:=Bh [] [.b] (fun _=>true) (fun _=>(true,()))
noncomputable def plWk:List (Nat×PureT):=[(70,Nu),(27,Aqq),(105,Qq)]
theorem puWk:Cd Tryz.prog plWk:=puOk_cons Ha.plain Nv (puOk_cons is_set.plain Avj (puOk_cons is_lCheck.plain Nr puOk_nil))
theorem X7:A6 Tryz.prog 46 Iz:=A1a (M3 (u:=20) Am puWk S8) 40 (fun _=>by kernel_rfl)
end Tp
end V
end Go.Proofs.YtlangijnealfjaaGreat
