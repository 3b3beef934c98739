import Derived.Test.YtlangijnealfjaaGreatAb
import Derived.Test.YtlangijnealfjaaGreatCA
namespace Go.Proofs.YtlangijnealfjaaGreat
open Go.RowKit
namespace V
theorem is_cB1:FnIs Tryz.prog (107,Tryz.f107):=⟨Tryz.func107,by kernel_rfl,by kernel_rfl⟩
theorem is_vBall:FnIs Tryz.prog (106,Tryz.f106):=⟨Tryz.func106,by kernel_rfl,by kernel_rfl⟩
theorem is_ckBall:FnIs Tryz.prog (48,Tryz.f48):=⟨Tryz.func48,by kernel_rfl,by kernel_rfl⟩
def cbP (d:TCT A1):Bool:=u_ck d.1.1 d.1.2.1 != 0||!St.inR d.2.1 1 16384
abbrev Alw:PureT:=B9 [A1] [.b] (fun _=>true) (fun x=>(cbP x.1,()))
def plCb0:List (Nat×PureT):=[(70,My),(120,St.s_inR)]
theorem puCb0:Ca Tryz.prog plCb0:=puOk_cons Gq.plain Mz (puOk_cons St.is_between2.plain St.q_between2 puOk_nil)
theorem Aq0:A5 Tryz.prog 107 Alw:=Bb (Aj Ak puCb0 (A0 is_cB1 (A0 is_vBall A2))) 4 (fun x=>bif u_ck x.1.1.1 x.1.1.2.1 != 0 then .leaf (true,()) else .leaf (!St.inR x.1.2.1 1 16384,())) (fun x=>by kernel_rfl) fun x _ _=>by
 show (bif u_ck x.1.1.1 x.1.1.2.1 != 0 then Tree.leaf (true,()) else Tree.leaf (!St.inR x.1.2.1 1 16384,())).sat (fun y=>y=(u_ck x.1.1.1 x.1.1.2.1 != 0||!St.inR x.1.2.1 1 16384,()))
 cases u_ck x.1.1.1 x.1.1.2.1 != 0 <;> exact rfl
def plCb:List (Nat×PureT):=[(107,Alw)]
theorem puCb:Ca Tryz.prog plCb:=puOk_cons is_cB1.plain Aq0 puOk_nil
theorem is_ixDsc:FnIs Tryz.prog (58,Tryz.f58):=⟨Tryz.func58,by kernel_rfl,by kernel_rfl⟩
theorem is_cfDsc:FnIs Tryz.prog (41,Tryz.f41):=⟨Tryz.func41,by kernel_rfl,by kernel_rfl⟩
abbrev Ho:List SK:=[]
def Dz (k:SKTs Ho) (x:TCT (A1)):Bool:=cbP x
noncomputable def Zh:Code:=(Ai (bodyOf Tryz.f58)).getD 0 .skip
def Ic:Lay:={ keys:=[0,1,7,8],ks:=[.d (.sl (A1)),.f 107 [] Ho,.d cI,.d cI],bs:=[],n:=19,nx:=1000,marks:=[] }
def Abu:Lay:={ keys:=[4],ks:=[.d cI],bs:=[],n:=19,nx:=1000,marks:=[] }
def Abv:Lay:={ keys:=[],ks:=[],bs:=[],n:=19,nx:=1000,marks:=[] }
def H7:XE→Lay
 | .ret=>Abu
 | _=>Abv
def Zi (k:SKTs Ho) (l:List (TCT (A1))) (n i:Int):Ic.T:=((l,((),k),n,i,()),())
def Qf (i:Int):A4 H7:=⟨.ret,((i,()),())⟩
def Qg:A4 H7:=⟨.exit 0,((),())⟩
def Ie (k:SKTs Ho) (l:List (TCT (A1))) (n:Int) (x:TCT (A1)) (i:Int):Tree (Ic.T⊕A4 H7):=bif Dz k x then .leaf (.inr (Qf i)) else .leaf (.inl (Zi k l n (W64 (i+1))))
def Abw (k:SKTs Ho) (l:List (TCT (A1))) (n i:Int):Tree (Ic.T⊕A4 H7) :=
 bif decide (i<n) then bif decide (0≤i∧i<(l.length:Int)) then Ie k l n (Ar l i.toNat (Ap (A1))) i else .fail else .leaf (.inr Qg)
def Nz (g:Ic.T):Tree (A4 H7) :=
 .br (G1 g.1.2.2.1 g.1.2.2.2.1 g.1.1) (.br (g.1.1.any (Dz g.1.2.1.2)) (.leaf (Qf (g.1.1.findIdx (Dz g.1.2.1.2)))) (.leaf Qg)) .fail
theorem Ahu:As Tryz.prog 58 Zh (Aq Ic H7 Nz):=by
 refine El (X:=ctx Tryz.prog plCb []) (Aj Ak puCb A2) 7 58 (fun _=>none) (fun _ _ f h=>by simp at h) Ic H7 (fun e=>by cases e <;> exact Nat.le_refl _) Nz (fun g=>Abw g.1.2.1.2 g.1.1 g.1.2.2.1 g.1.2.2.2.1) (fun g=>by kernel_rfl) ?_
 rintro ⟨⟨l,⟨⟨⟩,k⟩,n,i,⟨⟩⟩,⟨⟩⟩ R hw hf
 obtain ⟨hf,h0⟩:=hf
 by_cases hc:n=(l.length:Int)∧i=0
 ·obtain ⟨rfl,rfl⟩:=hc
  have hf:=hf (decide_eq_true ⟨rfl,rfl⟩)
  refine Abb l (Ap (A1)) (E9 hw.1.1) (fun n i _=>Zi k l n i) (fun x i (_:Unit)=>bif Dz k x then .inr (Qf i) else .inl ()) (fun _=>Qg) (fun _=>True) (fun x i _=>Ie k l l.length x i) (fun i _=>rfl) ?_ () trivial ?_
  ·intro i _ hi Q _ _ hw1 hQ
   show (Ie k l l.length l[i] i).sat Q
   unfold Ie
   rw [hw1]
   cases hp:Dz k l[i] with
   | true=>rw [hp] at hQ;exact hQ
   | false=>rw [hp] at hQ;exact hQ trivial
  ·rw [Jb (Dz k) (fun i=>Qf i) Qg l 0,Nat.zero_add]
   cases ha:l.any (Dz k) with
   | true=>exact hf.1 ha
   | false=>exact hf.2 ha
 ·exact (h0 (decide_eq_false hc)).elim
abbrev Ahv:PureT:=G8 [.d (.sl (A1)),.f 107 [] Ho] [cI] (fun _=>true) (fun x=>(bif x.1.any (Dz x.2.1.2) then (x.1.findIdx (Dz x.2.1.2):Int) else -1,()))
noncomputable def Ahw:Ctx:=Fu Tryz.prog plCb [(58,Tryz.f58)] [((58,keyOf Zh),Aq Ic H7 Nz)]
theorem A3o:CtxOk Ahw:=Bt Ak puCb (A0 is_ixDsc A2) (Bs rfl (by kernel_rfl) Ahu)
def A69 (k:SKTs Ho) (l:List (TCT (A1))):Tree (Int×Unit):=bif G1 (l.length:Int) 0 l then bif l.any (Dz k) then .leaf ((l.findIdx (Dz k):Int),()) else .leaf (-1,()) else .fail
theorem A3p (k:SKTs Ho) (l:List (TCT (A1))):(A69 k l).sat (fun y=>y=(bif l.any (Dz k) then (l.findIdx (Dz k):Int) else -1,())):=by
 refine I7 (decide_eq_true ⟨rfl,rfl⟩) ?_
 cases l.any (Dz k) <;> exact rfl
theorem Ahx:A5 Tryz.prog 58 Ahv:=Ji A3o 8 (fun x=>A69 x.2.1.2 x.1) (fun x=>by kernel_rfl) fun x _ _=>A3p _ _
abbrev A6a:PureT:=G8 [.d (.sl (A1)),.f 107 [] Ho] [.b] (fun _=>true) (fun x=>(x.1.any (Dz x.2.1.2),()))
theorem A3q (k:SKTs Ho) (l:List (TCT (A1))):(Tree.leaf (decide ((bif l.any (Dz k) then (l.findIdx (Dz k):Int) else -1)≥0),()):Tree (Bool×Unit)).sat (fun y=>y=(l.any (Dz k),())):=by
 rw [Lc];exact rfl
theorem Ahy:A5 Tryz.prog 41 A6a:=Ji (Aj Ak (puOk_cons is_ixDsc.plain Ahx puOk_nil) (A0 is_cfDsc A2)) 8 (fun x=>.leaf (decide ((bif x.1.any (Dz x.2.1.2) then (x.1.findIdx (Dz x.2.1.2):Int) else -1)≥0),())) (fun x=>by kernel_rfl) fun x _ _=>A3q _ _
def cbE (r:Int) (o:List (TCT A1)):Int:=bif !St.inR r 1 16384 then 3 else bif decide ((o.length:Int)>12) then 6 else bif o.any cbP then 2 else 0
abbrev Zj:PureT:=B9 [cI,.sl A1] [cI] (fun _=>true) (fun x=>(cbE x.1 x.2.1,()))
def plCb2:List (Nat×PureT):=[(120,St.s_inR),(41,A6a)]
theorem puCb2:Ca Tryz.prog plCb2:=puOk_cons St.is_between2.plain St.q_between2 (puOk_cons is_cfDsc.plain Ahy puOk_nil)
def Qy (r:Int) (o:List (TCT A1)):Tree (TCTs [cI]):=bif !St.inR r 1 16384 then .leaf (3,()) else bif decide ((o.length:Int)>12) then .leaf (6,()) else bif o.any (Dz ()) then .leaf (2,()) else .leaf (0,())
theorem Zk (r:Int) (o:List (TCT A1)):(Qy r o).sat (fun y=>y=(cbE r o,())):=by
 unfold Qy cbE
 show (bif !St.inR r 1 16384 then .leaf (3,()) else bif decide ((o.length:Int)>12) then .leaf (6,()) else bif o.any cbP then .leaf (2,()) else .leaf (0,()):Tree (TCTs [cI])).sat _
 cases !St.inR r 1 16384 <;> cases decide ((o.length:Int)>12) <;> cases o.any cbP <;> exact rfl
theorem Abx:A5 Tryz.prog 48 Zj:=Bb (Aj Ak puCb2 (A0 is_ckBall (A0 is_vBall A2))) 5 (fun x=>Qy x.1 x.2.1) (fun x=>by kernel_rfl) fun _ _ _=>Zk _ _
end V
end Go.Proofs.YtlangijnealfjaaGreat
namespace Go.Proofs.YtlangijnealfjaaGreat
open Go.RowKit
namespace V
open St
theorem is_InWay:FnIs Tryz.prog (14,Tryz.f14):=⟨Tryz.func14,by kernel_rfl,by kernel_rfl⟩
theorem is_InWay1:FnIs Tryz.prog (49,Tryz.f49):=⟨Tryz.func49,by kernel_rfl,by kernel_rfl⟩
theorem is_Touched:FnIs Tryz.prog (60,Tryz.f60):=⟨Tryz.func60,by kernel_rfl,by kernel_rfl⟩
theorem is_May:FnIs Tryz.prog (23,Tryz.f23):=⟨Tryz.func23,by kernel_rfl,by kernel_rfl⟩
abbrev kP6:List SK:=[.d cI,.d cI]
abbrev Di (p:SKTs kP6):TCT cPt:=(p.1,p.2.1,())
def iwD (a b:TCT cPt) (r:Int) (d:TCT A1):Bool:=decide ((LsR a.1 a.2.1 b.1 b.2.1 d.1.1 d.1.2.1 (W64 (r+d.2.1))).1<0)
def iwF (p:TCT A1→Bool):List (TCT A1)→Int→List Int
 | [],_=>[]
 | d::ds,i=>bif p d then i::iwF p ds (i+1) else iwF p ds (i+1)
noncomputable def Aq1:Code:=(Ai (bodyOf Tryz.f14)).getD 0 .skip
def Asr:List BK:=[(1,28,kP6),(2,28,kP6),(3,2,[.d cI])]
def Zl:Lay:={ keys:=[14,15,37,38,39],ks:=[.f 49 [] [.p 1 0 0 0,.p 2 0 0 0,.p 3 0 0 0],.o 3 cI,.d (.sl A1),.d cI,.d cI],bs:=Asr,n:=53,nx:=1000,marks:=[] }
def Ass:Lay:={ keys:=[15],ks:=[.o 3 cI],bs:=[],n:=53,nx:=1000,marks:=[] }
def A3r:XE→Lay:=fun _=>Ass
structure QIw where
 a:SKTs kP6
 b:SKTs kP6
 r:SKTs [.d cI]
 n:Int
 ds:List (TCT A1)
def Zm (q:QIw) (i:Int) (o:List Int):Zl.T:=((((),(),(),(),()),o,q.ds,q.n,i,()),(q.a,q.b,q.r,()))
def Zn (o:List Int):A4 A3r:=⟨.exit 0,((o,()),())⟩
def Zo (q:QIw) (i:Int) (o:List Int):Tree (Zl.T⊕A4 A3r) :=
 bif decide (i<q.n) then bif decide (0≤i∧i<(q.ds.length:Int)) then bif iwD (Di q.a) (Di q.b) q.r.1 (Ar q.ds (Int.toNat i) (Ap A1)) then bif Dv o [i] 8 then .leaf (.inl (Zm q (W64 (i+1)) (o++[i]))) else .fail else .leaf (.inl (Zm q (W64 (i+1)) o)) else .fail else .leaf (.inr (Zn o))
def Vg (x:Zl.T):Tree (Zl.T⊕A4 A3r):=Zo ⟨x.2.1,x.2.2.1,x.2.2.2.1,x.1.2.2.2.1,x.1.2.2.1⟩ x.1.2.2.2.2.1 x.1.2.1
def Aby (x:Zl.T):Nat:=(x.1.2.2.1:List (TCT A1)).length+1
noncomputable def Aq2:Ctx:=ctx Tryz.prog [(50,Abn)] [(49,Tryz.f49)]
theorem Abz:CtxOk Aq2:=Aj Ak (puOk_cons is_Lies.plain An6 puOk_nil) (A0 is_InWay1 A2)
theorem Ast:As Tryz.prog 14 Aq1 (Aq Zl A3r (Da [.exit 0] Vg Aby)):=C0 Abz 7 _ Zl A3r (fun _=>Nat.le_refl _) [.exit 0] Vg Aby (fun g=>by kernel_rfl)
theorem A6b {E:Type} (p:TCT A1→Bool) (ex:List Int→E):∀ (l:List (TCT A1)) (i:Nat) (s:List Int),Mh (fun i x s=>some (.inl (bif p x then s++[(i:Int)] else s))) (fun s=>some (ex s)) i l s=some (ex (s++iwF p l (i:Int)))
 | [],_,s=>by simp only [Mh,iwF,List.append_nil]
 | x::l,i,s=>by
  simp only [Mh]
  rw [A6b p ex l (i+1)]
  rw [show ((i+1:Nat):Int)=(i:Int)+1 from rfl,show iwF p (x::l) (i:Int)=(bif p x then (i:Int)::iwF p l ((i:Int)+1) else iwF p l ((i:Int)+1)) from rfl]
  cases p x with
  | true=>simp only [cond_true,List.append_assoc,List.singleton_append]
  | false=>simp only [cond_false]
theorem Asu {o:List Int} {i:Int} (h:o.length≤100000):Dv o [i] 8=true:=by
 rw [Ep];exact decide_eq_true (by simp only [List.length_cons,List.length_nil];omega)
theorem Aq3 {q:QIw} (hn:q.n=(q.ds.length:Int)) (hl:q.ds.length≤60000):iter Vg (q.ds.length+1) (Zm q 0 [])=some (Zn (iwF (iwD (Di q.a) (Di q.b) q.r.1) q.ds 0)):=by
 have key:=De (st:=Vg) q.ds (fun i o=>Zm q (i:Int) o) (fun i x o=>some (.inl (bif iwD (Di q.a) (Di q.b) q.r.1 x then o++[(i:Int)] else o))) (fun o=>some (Zn o)) (fun i o=>o.length≤i)
  (fun i o hi hI=>by
   simp only
   refine ⟨?_,?_⟩
   ·show (Zo q (i:Int) o).run=_
    unfold Zo
    rw [hn,decide_eq_true (show (i:Int)<(q.ds.length:Int) by omega),decide_eq_true (show 0≤(i:Int)∧(i:Int)<(q.ds.length:Int) by omega),show Int.toNat (i:Int)=i by omega,Cl hi,C6 (n:=(i:Int)+1) (by omega) (by omega),Asu (by omega)]
    simp only [cond_true]
    cases iwD (Di q.a) (Di q.b) q.r.1 q.ds[i] <;> rfl
   ·cases iwD (Di q.a) (Di q.b) q.r.1 q.ds[i] with
    | true=>simp only [cond_true,List.length_append,List.length_singleton];omega
    | false=>simp only [cond_false];omega)
  (fun o e hI he=>by
   cases he
   show (Zo q (q.ds.length:Int) o).run=_
   unfold Zo
   rw [hn,decide_eq_false (show ¬ (q.ds.length:Int)<(q.ds.length:Int) by omega)]
   rfl)
  q.ds.length 0 [] (Zn (iwF (iwD (Di q.a) (Di q.b) q.r.1) q.ds 0)) (q.ds.length+1) (by omega) (by omega) (Nat.zero_le _) (by rw [List.drop_zero,A6b,List.nil_append];rfl)
 exact key
def Gk (l:TCT Ao) (a b:TCT cPt) (r:Int) (o:List (TCT A1)):Int:=bif D2 l != 0 then D2 l else bif u_ck a.1 a.2.1 != 0 then 2 else bif u_ck b.1 b.2.1 != 0 then 2 else cbE r o
def Lp (l:TCT Ao) (a b:TCT cPt) (r:Int) (o:List (TCT A1)):List Int:=bif Gk l a b r o==0 then iwF (iwD a b r) (B0 l++o) 0 else []
abbrev Ahz:PureT:=B9 [Ao,cPt,cPt,cI,.sl A1] [.sl cI,cI] (fun x=>decide ((x.1.1.size:Int)≤Au .i64)) (fun x=>(Lp x.1 x.2.1 x.2.2.1 x.2.2.2.1 x.2.2.2.2.1,Gk x.1 x.2.1 x.2.2.1 x.2.2.2.1 x.2.2.2.2.1,()))
def plIw:List (Nat×PureT):=(105,Pf)::(52,Ih)::(70,My)::(48,Zj)::(51,Z9)::[]
theorem puIw:Ca Tryz.prog plIw:=puOk_cons is_lCheck.plain Mv (puOk_cons is_lposts.plain Xk (puOk_cons Gq.plain Mz (puOk_cons is_ckBall.plain Abx (puOk_cons is_Concat.plain Abt puOk_nil))))
abbrev TIw:=Tree (TCTs [.sl cI,cI])
def An7 (a b:TCT cPt) (r:Int) (ds:List (TCT A1)):Option (A4 A3r):=iter Vg (ds.length+1) (Zm ⟨a,b,(r,()),(ds.length:Int),ds⟩ 0 [])
def Ai0 (l:TCT Ao) (a b:TCT cPt) (r:Int) (o:List (TCT A1)):TIw:=bif cbE r o != 0 then .leaf ([],cbE r o,()) else bif decide ((An l).length≤1000) then bif cc2 [B0 l,o] then bif isE (.exit 0) (An7 a b r (ccV [B0 l,o])) then .leaf ((Dd (.exit 0) (An7 a b r (ccV [B0 l,o]))).1.1,0,()) else .fail else .fail else .fail
def An8 (l:TCT Ao) (a b:TCT cPt) (r:Int) (o:List (TCT A1)):TIw:=szT l (bif D2 l != 0 then bif D2 l != 0 then .leaf ([],D2 l,()) else Ai0 l a b r o else bif u_ck a.1 a.2.1 != 0 then .leaf ([],2,()) else bif u_ck b.1 b.2.1 != 0 then .leaf ([],2,()) else Ai0 l a b r o)
noncomputable def Asv:Ctx:=Fu Tryz.prog plIw [(14,Tryz.f14),(47,Tryz.f47)] [((14,10),Aq Zl A3r (Da [.exit 0] Vg Aby))]
theorem Ai1:CtxOk Asv:=Bt Ak puIw (A0 is_InWay (A0 is_lchk A2)) (Bu (Bs (by kernel_rfl) (by kernel_rfl) Ast (14,Tryz.f14) (List.mem_singleton.2 rfl)) (Bu (fun d _ g hg=>nomatch (show none=some g from hg)) Ko))
theorem Ac0 {l:TCT Ao} (h:D2 l=0):(B0 l).length≤25:=by
 have:=(Rp h).1
 unfold B0
 rw [List.length_append,Ms]
 simp only [List.length_singleton]
 omega
theorem An9 {r:Int} {o:List (TCT A1)} (h:cbE r o=0):o.length≤12:=by
 unfold cbE at h
 cases h1:!St.inR r 1 16384 with
 | true=>rw [h1] at h;cases h
 | false =>
  cases h2:decide ((o.length:Int)>12) with
  | true=>rw [h1,h2] at h;cases h
  | false =>
   have:=of_decide_eq_false h2
   omega
theorem Ai2 {l:TCT Ao} {a b:TCT cPt} {r:Int} {o:List (TCT A1)} (h:D2 l=0) (ha:u_ck a.1 a.2.1=0) (hb:u_ck b.1 b.2.1=0):(Ai0 l a b r o).sat (fun y=>y=(Lp l a b r o,Gk l a b r o,())):=by
 have e:Gk l a b r o=cbE r o:=by unfold Gk;rw [h,ha,hb];rfl
 unfold Ai0 Lp
 rw [e]
 have h12:=(Rp h).1
 have hp:=Ac0 h
 cases hc:cbE r o != 0 with
 | true =>
  have hc':(cbE r o==0)=false:=by simpa using hc
  rw [hc']
  exact A6 rfl
 | false =>
  have hc':=bne_eq_false_iff_eq.1 hc
  have hl:=An9 hc'
  rw [cond_false,decide_eq_true (show (An l).length≤1000 by omega),show cc2 [B0 l,o]=true from decide_eq_true (show (B0 l).length+o.length≤60000 by omega),cond_true,cond_true]
  have hv:ccV [B0 l,o]=B0 l++o:=rfl
  have hll:(B0 l++o).length≤60000:=by rw [List.length_append];omega
  have hy:An7 a b r (ccV [B0 l,o])=some (Zn (iwF (iwD a b r) (B0 l++o) 0)):=by
   rw [hv]
   exact Aq3 (q:=⟨a,b,(r,()),((B0 l++o).length:Int),B0 l++o⟩) rfl hll
  rw [hy,hc']
  exact A6 rfl
theorem Ai3 {l:TCT Ao} {a b:TCT cPt} {r:Int} {o:List (TCT A1)} (hs:(l.1.size:Int)≤Au .i64):(An8 l a b r o).sat (fun y=>y=(Lp l a b r o,Gk l a b r o,())):=by
 unfold An8
 rw [Dw hs]
 cases h:D2 l != 0 with
 | true =>
  have e:Gk l a b r o=D2 l:=by unfold Gk;rw [h];rfl
  have h':(D2 l==0)=false:=by simpa using h
  unfold Lp
  rw [e,h']
  exact A6 rfl
 | false =>
  have h':=bne_eq_false_iff_eq.1 h
  rw [cond_false]
  cases ha:u_ck a.1 a.2.1 != 0 with
  | true =>
   have e:Gk l a b r o=2:=by unfold Gk;rw [h,ha];rfl
   unfold Lp
   rw [e]
   exact A6 rfl
  | false =>
   rw [cond_false]
   cases hb:u_ck b.1 b.2.1 != 0 with
   | true =>
    have e:Gk l a b r o=2:=by unfold Gk;rw [h,ha,hb];rfl
    unfold Lp
    rw [e]
    exact A6 rfl
   | false=>exact Ai2 h' (bne_eq_false_iff_eq.1 ha) (bne_eq_false_iff_eq.1 hb)
theorem A6c:A5 Tryz.prog 14 Ahz:=Bb Ai1 10 (fun x=>An8 x.1 x.2.1 x.2.2.1 x.2.2.2.1 x.2.2.2.2.1) (fun x=>by kernel_rfl) fun x hok _=>Ai3 (of_decide_eq_true hok)
abbrev A92:PureT:=B9 [Ao,cPt,cI,.sl A1] [.sl cI,cI] (fun x=>decide ((x.1.1.size:Int)≤Au .i64)) (fun x=>(Lp x.1 x.2.1 x.2.1 x.2.2.1 x.2.2.2.1,Gk x.1 x.2.1 x.2.1 x.2.2.1 x.2.2.2.1,()))
theorem A93:A5 Tryz.prog 60 A92:=Bb (Aj Ak (puOk_cons is_InWay.plain A6c puOk_nil) (A0 is_Touched A2)) 5 (fun x=>szT x.1 (.leaf (Lp x.1 x.2.1 x.2.1 x.2.2.1 x.2.2.2.1,Gk x.1 x.2.1 x.2.1 x.2.2.1 x.2.2.2.1,()))) (fun x=>by kernel_rfl) fun x hok _=>by
  rw [Dw (of_decide_eq_true hok)];exact A6 rfl
def mayE (l:TCT Ao) (p:TCT cPt) (r:Int) (o:List (TCT A1)):Int:=Gk l p p r o
def mayB (l:TCT Ao) (p:TCT cPt) (r:Int) (o:List (TCT A1)):Bool:=bif Gk l p p r o != 0 then false else ((Lp l p p r o).length:Int)==0&&onB l p
abbrev Ac1:PureT:=B9 [Ao,cPt,cI,.sl A1] [.b,cI] (fun x=>decide ((x.1.1.size:Int)≤Au .i64)) (fun x=>(mayB x.1 x.2.1 x.2.2.1 x.2.2.2.1,mayE x.1 x.2.1 x.2.2.1 x.2.2.2.1,()))
abbrev Asw:=Tree (TCTs [.b,cI])
def Ac2 (l:TCT Ao) (p:TCT cPt) (r:Int) (o:List (TCT A1)):Asw:=szT l (bif Gk l p p r o != 0 then .leaf (false,Gk l p p r o,()) else bif ((Lp l p p r o).length:Int)==0 then bif St.inR p.1 0 l.2.1 then .leaf (St.inR p.2.1 0 l.2.2.1,0,()) else .leaf (false,0,()) else .leaf (false,0,()))
theorem Ac3 {l:TCT Ao} {p:TCT cPt} {r:Int} {o:List (TCT A1)} (hs:(l.1.size:Int)≤Au .i64):(Ac2 l p r o).sat (fun y=>y=(mayB l p r o,mayE l p r o,())):=by
 unfold Ac2 mayB mayE
 rw [Dw hs]
 cases h:Gk l p p r o != 0 with
 | true=>exact A6 rfl
 | false =>
  have h':=bne_eq_false_iff_eq.1 h
  rw [h']
  cases ((Lp l p p r o).length:Int)==0 with
  | false=>exact A6 rfl
  | true =>
   unfold onB
   cases St.inR p.1 0 l.2.1 <;> exact A6 rfl
theorem Alx:A5 Tryz.prog 23 Ac1:=Bb (Aj Ak (puOk_cons is_Touched.plain A93 (puOk_cons is_between2.plain q_between2 puOk_nil)) (A0 is_May (A0 is_lon A2))) 5 (fun x=>Ac2 x.1 x.2.1 x.2.2.1 x.2.2.2.1) (fun x=>by kernel_rfl) fun x hok _=>Ac3 (of_decide_eq_true hok)
end V
end Go.Proofs.YtlangijnealfjaaGreat
namespace Go.Proofs.YtlangijnealfjaaGreat
open Go.RowKit
namespace V
namespace Tp
open St
theorem is_green:FnIs Tryz.prog (8,Tryz.f8):=⟨Tryz.func8,by kernel_rfl,by kernel_rfl⟩
theorem is_round:FnIs Tryz.prog (21,Tryz.f21):=⟨Tryz.func21,by kernel_rfl,by kernel_rfl⟩
theorem is_spot:FnIs Tryz.prog (9,Tryz.f9):=⟨Tryz.func9,by kernel_rfl,by kernel_rfl⟩
theorem is_set:FnIs Tryz.prog (27,Tryz.f27):=⟨Tryz.func27,by kernel_rfl,by kernel_rfl⟩
abbrev Aq4:TC:=.i .u16
abbrev Em:TC:=.st [Aq4,Aq4]
def Aly:TCT B6:=(50000,40000,6000,500,false,())
def Alz:TCT B6:=(30000,100000,6200,500,true,())
def Asx:TCT A1:=((50000,100000,()),1200,())
def nameG:ByteArray:=⟨#[103,114,101,101,110]⟩
def grn (d s:Int):TCT Ao:=(nameG,100000,200000,5000,[Aly,Alz],Asx,1,1,[(d,s,0,())],())
abbrev X8:PureT:=B9 [cI,cI] [Ao] (fun _=>true) (fun x=>(grn x.1 x.2.1,()))
theorem A6d:A5 Tryz.prog 8 X8:=Bb (Aj Ak puOk_nil (A0 is_green A2)) 5 (fun x=>.leaf (grn x.1 x.2.1,())) (fun x=>by kernel_rfl) fun _ _ _=>A6 rfl
def O0:TCT Be:=(450,2946,())
abbrev A6e:PureT:=B9 [] [Be] (fun _=>true) (fun _=>(O0,()))
theorem Ai4:A5 Tryz.prog 21 A6e:=Bb (Aj Ak puOk_nil (A0 is_round A2)) 5 (fun x=>.leaf (O0,())) (fun x=>by kernel_rfl) fun _ _ _=>A6 rfl
def spt (d:TCT Em):TCT cPt:=(W64 (Int.tdiv (W64 (W64 d.1*3)) 2),W64 (W64 d.2.1*3),())
abbrev A3s:PureT:=B9 [Em] [cPt] (fun _=>true) (fun x=>(spt x.1,()))
theorem Ac4:A5 Tryz.prog 9 A3s:=Bb (Aj Ak puOk_nil (A0 is_spot A2)) 5 (fun x=>.leaf (spt x.1,())) (fun x=>by kernel_rfl) fun _ _ _=>A6 rfl
end Tp
end V
end Go.Proofs.YtlangijnealfjaaGreat
namespace Go.Proofs.YtlangijnealfjaaGreat
open Go.RowKit
namespace V
namespace Tp
open St
abbrev kGb:List SK:=[.d .s,.d cI,.d cI,.d cI,.d (.sl B6),.d cI,.d cI,.d cI,.d cI,.d cI,.d (.sl D1),.o 68 Be,.d cI,.d cI]
noncomputable def Ana:Code:=(Ai (bodyOf Tryz.f27)).getD 0 .skip
def Am0:List BK:=[(1,64,kGr),(2,76,kSt),(8,64,kGb)]
def Mj:Lay:={ keys:=[2,8,9,11,12,13,14],ks:=[.d (.sl Em),.p 1 0 0 0,.p 2 0 0 0,.p 8 0 0 0,.o 28 cPt,.o 30 A1,.d cI],bs:=Am0,n:=97,nx:=1000,marks:=[] }
def Aq5:Lay:={ keys:=[2,8,9,11,12],ks:=[.d (.sl Em),.p 1 0 0 0,.p 2 0 0 0,.p 8 0 0 0,.o 28 cPt],bs:=Am0,n:=97,nx:=1000,marks:=[] }
def Anb:Lay:={ keys:=[8,9,10],ks:=[.p 1 0 0 0,.p 2 0 0 0,.d .b],bs:=[(1,64,kGb),(2,76,kSt)],n:=97,nx:=1000,marks:=[] }
def Jn:XE→Lay:=fun e=>match e with | .ret=>Anb | _=>Aq5
def plSet5:List (Nat×PureT):=(23,Ac1)::(8,X8)::(21,A6e)::(9,A3s)::(24,Ame)::[]
theorem puSet5:Ca Tryz.prog plSet5:=puOk_cons is_May.plain Alx (puOk_cons is_green.plain A6d (puOk_cons is_round.plain Ai4 (puOk_cons is_spot.plain Ac4 (puOk_cons is_sLie.plain Arl puOk_nil))))
noncomputable def Anc:Ctx:=ctx Tryz.prog plSet5 []
theorem A94:CtxOk Anc:=Aj Ak puSet5 A2
abbrev GbT:Type:=SKTs kGb
def lwb (g:GbT):TCT Ao:=(g.1,g.2.1,g.2.2.1,g.2.2.2.1,g.2.2.2.2.1,((g.2.2.2.2.2.1,g.2.2.2.2.2.2.1,()),g.2.2.2.2.2.2.2.1,()),g.2.2.2.2.2.2.2.2.1,g.2.2.2.2.2.2.2.2.2.1,g.2.2.2.2.2.2.2.2.2.2.1,())
def blb (g:GbT):List (TCT Be):=g.2.2.2.2.2.2.2.2.2.2.2.1
def wbl (g:GbT) (b:List (TCT Be)):GbT:=(g.1,g.2.1,g.2.2.1,g.2.2.2.1,g.2.2.2.2.1,g.2.2.2.2.2.1,g.2.2.2.2.2.2.1,g.2.2.2.2.2.2.2.1,g.2.2.2.2.2.2.2.2.1,g.2.2.2.2.2.2.2.2.2.1,g.2.2.2.2.2.2.2.2.2.2.1,b,g.2.2.2.2.2.2.2.2.2.2.2.2.1,g.2.2.2.2.2.2.2.2.2.2.2.2.2.1,())
structure QSt where
 l:List (TCT Em)
 g0:SKTs kGr
 s0:SKTs kSt
def Jo (p:TCT cPt):TCT A1:=((p.1,p.2.1,()),2946,())
def X9 (q:QSt) (g:GbT) (i:Int) (ps:List (TCT cPt)) (os:List (TCT A1)):Mj.T:=((q.l,(),(),(),ps,os,i,()),(q.g0,q.s0,g,()))
def Xd (q:QSt) (g:GbT) (ps:List (TCT cPt)):A4 Jn:=⟨.exit 0,((q.l,(),(),(),ps,()),(q.g0,q.s0,g,()))⟩
def A3t (g:GbT):A4 Jn:=⟨.ret,(((),(),false,()),(g,([],[],0,0,0,()),()))⟩
def A3u (q:QSt) (g:GbT) (i:Int) (ps:List (TCT cPt)) (os:List (TCT A1)) (p:TCT cPt):Tree (Mj.T⊕A4 Jn) :=
 bif mayE (lwb g) p 2946 os != 0 then .leaf (.inr (A3t g)) else bif !mayB (lwb g) p 2946 os then .leaf (.inr (A3t g)) else
 bif Dv (blb g) [O0] 16 then bif Dv ps [p] 16 then bif Dv os [Jo p] 24 then .leaf (.inl (X9 q (wbl g (blb g++[O0])) (W64 (i+1)) (ps++[p]) (os++[Jo p]))) else .fail else .fail else .fail
def Qz (q:QSt) (g:GbT) (i:Int) (ps:List (TCT cPt)) (os:List (TCT A1)):Tree (Mj.T⊕A4 Jn) :=
 bif decide (i<(q.l.length:Int)) then inN q.l.length i (szT (lwb g) (A3u q g i ps os (spt (Ar q.l (Int.toNat i) (Ap Em))))) else .leaf (.inr (Xd q g ps))
def O1 (x:Mj.T):Tree (Mj.T⊕A4 Jn):=Qz ⟨x.1.1,x.2.1,x.2.2.1⟩ x.2.2.2.1 x.1.2.2.2.2.2.2.1 x.1.2.2.2.2.1 x.1.2.2.2.2.2.1
def A3v (x:Mj.T):Nat:=(x.1.1:List (TCT Em)).length+1
theorem Aq6:As Tryz.prog 27 Ana (Aq Mj Jn (Da [.ret,.exit 0] O1 A3v)):=C0 A94 7 _ Mj Jn (fun e=>by cases e <;> exact Nat.le_refl _) [.ret,.exit 0] O1 A3v (fun g=>by kernel_rfl)
def setF (w:TCT Ao) (l:List (TCT Em)) (i:Nat) (ps:List (TCT cPt)):List (TCT cPt)⊕List (TCT cPt) :=
 bif mayE w (spt (Ar l i (Ap Em))) 2946 (ps.map Jo)!=0 then .inr ps else bif !mayB w (spt (Ar l i (Ap Em))) 2946 (ps.map Jo) then .inr ps else .inl (ps++[spt (Ar l i (Ap Em))])
def gbN (g:GbT) (n:Nat):GbT:=wbl g (List.replicate n O0)
def R1 (q:QSt) (g:GbT):List (TCT cPt)⊕List (TCT cPt)→A4 Jn
 | .inl ps=>Xd q (gbN g ps.length) ps
 | .inr ps=>A3t (gbN g ps.length)
theorem And {q:QSt} {g:GbT} (hl:q.l.length≤1000) (hs:((lwb g).1.size:Int)≤Au .i64):iter O1 (q.l.length+1) (X9 q (gbN g 0) 0 [] [])=some (R1 q g (Lg (setF (lwb g) q.l) 0 q.l.length [])):=by
 have key:=A4g (st:=O1) q.l.length (fun i ps=>X9 q (gbN g i) (i:Int) ps (ps.map Jo)) (setF (lwb g) q.l) (R1 q g) (fun i ps=>ps.length=i)
  (fun i ps hi hI=>by
   show (Qz q (gbN g i) (i:Int) ps (ps.map Jo)).run=_
   unfold Qz inN
   rw [decide_eq_true (show (i:Int)<(q.l.length:Int) by omega),decide_eq_true (show 0≤(i:Int)∧(i:Int)<(q.l.length:Int) by omega),show Int.toNat (i:Int)=i by omega]
   show (szT (lwb g) (A3u q (gbN g i) (i:Int) ps (ps.map Jo) (spt (Ar q.l i (Ap Em)))):Tree _).run=_
   rw [Dw hs]
   unfold A3u setF
   rw [show lwb (gbN g i)=lwb g from rfl]
   generalize spt (Ar q.l i (Ap Em))=p
   cases mayE (lwb g) p 2946 (ps.map Jo)!=0 with
   | true=>simp only [cond_true,Aen,R1,hI];rfl
   | false =>
    cases !mayB (lwb g) p 2946 (ps.map Jo) with
    | true=>simp only [cond_true,cond_false,Aen,R1,hI];rfl
    | false =>
     rw [C6 (n:=(i:Int)+1) (by omega) (by omega)]
     have e1:Dv (blb (gbN g i)) [O0] 16=true:=by
      rw [Ep];exact decide_eq_true (by show (((List.replicate i O0).length+[O0].length:Nat):Int)*16≤_;rw [List.length_replicate];simp only [List.length_singleton];omega)
     have e2:Dv ps [p] 16=true:=by rw [Ep];exact decide_eq_true (by simp only [List.length_singleton];omega)
     have e3:Dv (ps.map Jo) [Jo p] 24=true:=by rw [Ep];exact decide_eq_true (by simp only [List.length_singleton,List.length_map];omega)
     have e4:wbl (gbN g i) (blb (gbN g i)++[O0])=gbN g (i+1):=by
      show wbl g (List.replicate i O0++[O0])=wbl g (List.replicate (i+1) O0)
      rw [List.replicate_succ']
     have e5:ps.map Jo++[Jo p]=(ps++[p]).map Jo:=by rw [List.map_append];rfl
     rw [e1,e2,e3,e4,e5]
     rfl)
  (fun i ps ps' _ hI h=>by
   unfold setF at h
   cases h1:mayE (lwb g) (spt (Ar q.l i (Ap Em))) 2946 (ps.map Jo)!=0 with
   | true=>rw [h1] at h;cases h
   | false =>
    cases h2:!mayB (lwb g) (spt (Ar q.l i (Ap Em))) 2946 (ps.map Jo) with
    | true=>rw [h1,h2] at h;cases h
    | false =>
     rw [h1,h2] at h
     cases h
     rw [List.length_append,List.length_singleton,hI])
  (fun ps hI=>by
   show (Qz q (gbN g q.l.length) (q.l.length:Int) ps (ps.map Jo)).run=_
   unfold Qz
   rw [decide_eq_false (show ¬ (q.l.length:Int)<(q.l.length:Int) by omega)]
   show some (Sum.inr (Xd q (gbN g q.l.length) ps))=some (Sum.inr (Xd q (gbN g ps.length) ps))
   rw [hI]) q.l.length 0 [] (by omega) rfl
 exact key
noncomputable def Ac5:Ctx:=Fu Tryz.prog plSet5 [(27,Tryz.f27)] [((27,5),Aq Mj Jn (Da [.ret,.exit 0] O1 A3v))]
theorem Ac6:CtxOk Ac5:=Bt Ak puSet5 (A0 is_set A2) (Bs (by kernel_rfl) (by kernel_rfl) Aq6)
def gb0 (d s:Int) (x:TCT Q7):GbT:=(nameG,100000,200000,5000,[Aly,Alz],50000,100000,1200,1,1,[(d,s,0,())],[],x.1,x.2.1,())
def g00:SKTs kGr:=(⟨#[]⟩,0,0,0,[],0,0,0,0,0,[],[],0,0,())
def s00:SKTs kSt:=([],[],0,0,0,())
def A6f (d s:Int) (l:List (TCT Em)) (x:TCT Q7):Option (A4 Jn):=iter O1 (l.length+1) (X9 ⟨l,g00,s00⟩ (gb0 d s x) 0 [] [])
abbrev Ai5:=Tree (TCTs [cGr,cSt,.b])
def grb (g:GbT):TCT cGr:=(lwb g,blb g,(g.2.2.2.2.2.2.2.2.2.2.2.2.1,g.2.2.2.2.2.2.2.2.2.2.2.2.2.1,()),())
def Ane (l:List (TCT Em)) (r:TCTs [cSt,cI]):Bool:=r.2.1==0&&(((msT r.1).length:Int)==(l.length:Int)&&((osT r.1).length:Int)==(l.length:Int))
def Ac7 (l:List (TCT Em)) (g:GbT) (r:TCTs [cSt,cI]):Ai5:=bif r.2.1==0 then bif ((msT r.1).length:Int)==(l.length:Int) then .leaf (grb g,St.etaS r.1,((osT r.1).length:Int)==(l.length:Int),()) else .leaf (grb g,St.etaS r.1,false,()) else .leaf (grb g,St.etaS r.1,false,())
def Ac8 (g:GbT) (l:List (TCT Em)) (ps:List (TCT cPt)):Ai5:=szT (lwb g) (Ac7 l g (H5 (grb g) ps))
def Ac9 (y:Option (A4 Jn)):Ai5:=bif isE .ret y then .leaf (grb (Dd .ret y).2.1,(Dd .ret y).2.2.1,(Dd .ret y).1.2.2.1,()) else bif isE (.exit 0) y then Ac8 (Dd (.exit 0) y).2.2.2.1 (Dd (.exit 0) y).1.1 (Dd (.exit 0) y).1.2.2.2.2.1 else .fail
theorem Aca (x:TCTs [cI,cI,.sl Em,Q7]):D7 Ac5 7 (.fn 27) (D5 [cI,cI,.sl Em,Q7] x) Bz 0 (Ge Ac5.P [cGr,cSt,.b])=Ac9 (A6f x.1 x.2.1 x.2.2.1 x.2.2.2.1):=by kernel_rfl
def gN (d s:Int) (x:TCT Q7) (n:Nat):TCT cGr:=(grn d s,List.replicate n O0,(x.1,x.2.1,()),())
abbrev Ai6:Type:=List (TCT cPt)⊕List (TCT cPt)
def Zp (d s:Int) (l:List (TCT Em)):Ai6:=Lg (setF (grn d s) l) 0 l.length []
def sN:Ai6→Nat
 | .inl p=>p.length
 | .inr p=>p.length
def sS (d s:Int) (x:TCT Q7):Ai6→TCT cSt
 | .inl p=>St.etaS (H5 (gN d s x p.length) p).1
 | .inr _=>zS
def sB (d s:Int) (x:TCT Q7) (l:List (TCT Em)):Ai6→Bool
 | .inl p=>Ane l (H5 (gN d s x p.length) p)
 | .inr _=>false
abbrev Am1:PureT:=B9 [cI,cI,.sl Em,Q7] [cGr,cSt,.b] (fun x=>decide (x.2.2.1.length≤1000)) (fun x=>(gN x.1 x.2.1 x.2.2.2.1 (sN (Zp x.1 x.2.1 x.2.2.1)),sS x.1 x.2.1 x.2.2.2.1 (Zp x.1 x.2.1 x.2.2.1),sB x.1 x.2.1 x.2.2.2.1 x.2.2.1 (Zp x.1 x.2.1 x.2.2.1),()))
theorem Zq (d s:Int):((grn d s).1.size:Int)≤Au .i64:=by
 show ((nameG.size:Nat):Int)≤_
 decide
theorem Acb {d s:Int} {l:List (TCT Em)} {x:TCT Q7} (hl:l.length≤1000):(Ac9 (A6f d s l x)).sat (fun y=>y=(gN d s x (sN (Zp d s l)),sS d s x (Zp d s l),sB d s x l (Zp d s l),())):=by
 have e:A6f d s l x=some (R1 ⟨l,g00,s00⟩ (gb0 d s x) (Zp d s l)):=And (q:=⟨l,g00,s00⟩) (g:=gb0 d s x) hl (Zq d s)
 rw [e]
 cases Zp d s l with
 | inr ps=>exact A6 rfl
 | inl ps =>
  show (Ac8 (gbN (gb0 d s x) ps.length) l ps).sat _
  unfold Ac8
  rw [Dw (show (((lwb (gbN (gb0 d s x) ps.length)).1.size:Nat):Int)≤_ from Zq d s)]
  show (Ac7 l (gbN (gb0 d s x) ps.length) (H5 (gN d s x ps.length) ps)).sat _
  unfold Ac7
  show (bif (H5 (gN d s x ps.length) ps).2.1==0 then bif ((msT (H5 (gN d s x ps.length) ps).1).length:Int)==(l.length:Int) then .leaf (gN d s x ps.length,St.etaS (H5 (gN d s x ps.length) ps).1,((osT (H5 (gN d s x ps.length) ps).1).length:Int)==(l.length:Int),()) else .leaf (gN d s x ps.length,St.etaS (H5 (gN d s x ps.length) ps).1,false,()) else .leaf (gN d s x ps.length,St.etaS (H5 (gN d s x ps.length) ps).1,false,()):Ai5).sat (fun y=>y=(gN d s x ps.length,St.etaS (H5 (gN d s x ps.length) ps).1,Ane l (H5 (gN d s x ps.length) ps),()))
  unfold Ane
  cases (H5 (gN d s x ps.length) ps).2.1==0 <;> cases ((msT (H5 (gN d s x ps.length) ps).1).length:Int)==(l.length:Int) <;> exact A6 rfl
theorem Aq7:A5 Tryz.prog 27 Am1:=Bb Ac6 7 (fun x=>Ac9 (A6f x.1 x.2.1 x.2.2.1 x.2.2.2.1)) Aca fun x hok _=>Acb (of_decide_eq_true hok)
end Tp
end V
end Go.Proofs.YtlangijnealfjaaGreat
namespace Go.Proofs.YtlangijnealfjaaGreat
open Go.RowKit
namespace V
namespace Tp
open St
theorem is_works05:FnIs Tryz.prog (46,Tryz.f46):=⟨Tryz.func46,by kernel_rfl,by kernel_rfl⟩
abbrev Qh:PureT:=B9 [] [.b] (fun _=>true) (fun _=>(true,()))
noncomputable def plWk:List (Nat×PureT):=[(70,My),(27,Am1),(105,Pf)]
theorem puWk:Ca Tryz.prog plWk:=puOk_cons Gq.plain Mz (puOk_cons is_set.plain Aq7 (puOk_cons is_lCheck.plain Mv puOk_nil))
theorem A95:A5 Tryz.prog 46 Qh:=A5e (Qv (u:=20) Ak puWk A76) 40 (fun _=>by kernel_rfl)
end Tp
end V
end Go.Proofs.YtlangijnealfjaaGreat
