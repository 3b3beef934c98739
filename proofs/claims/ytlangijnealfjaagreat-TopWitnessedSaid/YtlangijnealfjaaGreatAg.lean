import Derived.Test.YtlangijnealfjaaGreatAb
import Derived.Test.YtlangijnealfjaaGreatCA
namespace Go.Proofs.YtlangijnealfjaaGreat
open Go.RowKit
namespace V
theorem is_cB1:FnIs Tryz.prog (107,Tryz.f107):=⟨Tryz.func107,by kernel_rfl,by kernel_rfl⟩
theorem is_vBall:FnIs Tryz.prog (106,Tryz.f106):=⟨Tryz.func106,by kernel_rfl,by kernel_rfl⟩
theorem is_ckBall:FnIs Tryz.prog (48,Tryz.f48):=⟨Tryz.func48,by kernel_rfl,by kernel_rfl⟩
def cbP (d:TCT A4):Bool:=Hv d.1.1 d.1.2.1 != 0||!St.inR d.2.1 1 16384
abbrev B41:PureT:=Bj [A4] [.b] (fun _=>true) (fun x=>(cbP x.1,()))
def plCb0:List (Nat×PureT):=[(70,Kp),(120,St.s_inR)]
theorem puCb0:D3 Tryz.prog plCb0:=puOk_cons K7.plain Ml (puOk_cons St.is_between2.plain St.q_between2 puOk_nil)
theorem Bbr:A6 Tryz.prog 107 B41:=Bl (Ap Ak puCb0 (fns_cons is_cB1 (fns_cons is_vBall A0))) 4 (fun x=>bif Hv x.1.1.1 x.1.1.2.1 != 0 then .leaf (true,()) else .leaf (!St.inR x.1.2.1 1 16384,())) (fun x=>by kernel_rfl) fun x _ _=>by
 show (bif Hv x.1.1.1 x.1.1.2.1 != 0 then Tree.leaf (true,()) else Tree.leaf (!St.inR x.1.2.1 1 16384,())).sat (fun y=>y=(Hv x.1.1.1 x.1.1.2.1 != 0||!St.inR x.1.2.1 1 16384,()))
 cases Hv x.1.1.1 x.1.1.2.1 != 0 <;> exact rfl
def plCb:List (Nat×PureT):=[(107,B41)]
theorem puCb:D3 Tryz.prog plCb:=puOk_cons is_cB1.plain Bbr puOk_nil
theorem is_ixDsc:FnIs Tryz.prog (58,Tryz.f58):=⟨Tryz.func58,by kernel_rfl,by kernel_rfl⟩
theorem is_cfDsc:FnIs Tryz.prog (41,Tryz.f41):=⟨Tryz.func41,by kernel_rfl,by kernel_rfl⟩
abbrev L9:List SK:=[]
def Gi (k:SKTs L9) (x:TCT (A4)):Bool:=cbP x
noncomputable def A6j:Code:=(Al (bodyOf Tryz.f58)).getD 0 .skip
def Mc:Lay:={ keys:=[0,1,7,8],ks:=[.d (.sl (A4)),.f 107 [] L9,.d cI,.d cI],bs:=[],n:=19,nx:=1000,marks:=[] }
def An0:Lay:={ keys:=[4],ks:=[.d cI],bs:=[],n:=19,nx:=1000,marks:=[] }
def An1:Lay:={ keys:=[],ks:=[],bs:=[],n:=19,nx:=1000,marks:=[] }
def Ki:XE→Lay
 | .ret=>An0
 | _=>An1
def A6k (k:SKTs L9) (l:List (TCT (A4))) (n i:Int):Mc.T:=((l,((),k),n,i,()),())
def Ws (i:Int):A1 Ki:=⟨.ret,((i,()),())⟩
def Wt:A1 Ki:=⟨.exit 0,((),())⟩
def Md (k:SKTs L9) (l:List (TCT (A4))) (n:Int) (x:TCT (A4)) (i:Int):Tree (Mc.T⊕A1 Ki):=bif Gi k x then .leaf (.inr (Ws i)) else .leaf (.inl (A6k k l n (W64 (i+1))))
def An2 (k:SKTs L9) (l:List (TCT (A4))) (n i:Int):Tree (Mc.T⊕A1 Ki) :=
 bif decide (i<n) then bif decide (0≤i∧i<(l.length:Int)) then Md k l n (As l i.toNat (Aq (A4))) i else .fail else .leaf (.inr Wt)
def Tt (g:Mc.T):Tree (A1 Ki) :=
 .br (Lm g.1.2.2.1 g.1.2.2.2.1 g.1.1) (.br (g.1.1.any (Gi g.1.2.1.2)) (.leaf (Ws (g.1.1.findIdx (Gi g.1.2.1.2)))) (.leaf Wt)) .fail
theorem Awr:Aw Tryz.prog 58 A6j (Ar Mc Ki Tt):=by
 refine G9 (X:=ctx Tryz.prog plCb []) (Ap Ak puCb A0) 7 58 (fun _=>none) (fun _ _ f h=>by simp at h) Mc Ki (fun e=>by cases e <;> exact Nat.le_refl _) Tt (fun g=>An2 g.1.2.1.2 g.1.1 g.1.2.2.1 g.1.2.2.2.1) (fun g=>by kernel_rfl) ?_
 rintro ⟨⟨l,⟨⟨⟩,k⟩,n,i,⟨⟩⟩,⟨⟩⟩ R hw hf
 obtain ⟨hf,h0⟩:=hf
 by_cases hc:n=(l.length:Int)∧i=0
 ·obtain ⟨rfl,rfl⟩:=hc
  have hf:=hf (decide_eq_true ⟨rfl,rfl⟩)
  refine Avt l (Aq (A4)) (Dl hw.1.1) (fun n i _=>A6k k l n i) (fun x i (_:Unit)=>bif Gi k x then .inr (Ws i) else .inl ()) (fun _=>Wt) (fun _=>True) (fun x i _=>Md k l l.length x i) (fun i _=>rfl) ?_ () trivial ?_
  ·intro i _ hi Q _ _ hw1 hQ
   show (Md k l l.length l[i] i).sat Q
   unfold Md
   rw [hw1]
   cases hp:Gi k l[i] with
   | true=>rw [hp] at hQ;exact hQ
   | false=>rw [hp] at hQ;exact hQ trivial
  ·rw [Pp (Gi k) (fun i=>Ws i) Wt l 0,Nat.zero_add]
   cases ha:l.any (Gi k) with
   | true=>exact hf.1 ha
   | false=>exact hf.2 ha
 ·exact (h0 (decide_eq_false hc)).elim
abbrev Aws:PureT:=Ha [.d (.sl (A4)),.f 107 [] L9] [cI] (fun _=>true) (fun x=>(bif x.1.any (Gi x.2.1.2) then (x.1.findIdx (Gi x.2.1.2):Int) else -1,()))
noncomputable def Awt:Ctx:=G4 Tryz.prog plCb [(58,Tryz.f58)] [((58,keyOf A6j),Ar Mc Ki Tt)]
theorem Abp:CtxOk Awt:=Bs Ak puCb (fns_cons is_ixDsc A0) (Cc rfl (by kernel_rfl) Awr)
def Afg (k:SKTs L9) (l:List (TCT (A4))):Tree (Int×Unit):=bif Lm (l.length:Int) 0 l then bif l.any (Gi k) then .leaf ((l.findIdx (Gi k):Int),()) else .leaf (-1,()) else .fail
theorem Abq (k:SKTs L9) (l:List (TCT (A4))):(Afg k l).sat (fun y=>y=(bif l.any (Gi k) then (l.findIdx (Gi k):Int) else -1,())):=by
 refine Ow (decide_eq_true ⟨rfl,rfl⟩) ?_
 cases l.any (Gi k) <;> exact rfl
theorem Awu:A6 Tryz.prog 58 Aws:=Ji Abp 8 (fun x=>Afg x.2.1.2 x.1) (fun x=>by kernel_rfl) fun x _ _=>Abq _ _
abbrev Afh:PureT:=Ha [.d (.sl (A4)),.f 107 [] L9] [.b] (fun _=>true) (fun x=>(x.1.any (Gi x.2.1.2),()))
theorem Abr (k:SKTs L9) (l:List (TCT (A4))):(Tree.leaf (decide ((bif l.any (Gi k) then (l.findIdx (Gi k):Int) else -1)≥0),()):Tree (Bool×Unit)).sat (fun y=>y=(l.any (Gi k),())):=by
 rw [Tn];exact rfl
theorem Awv:A6 Tryz.prog 41 Afh:=Ji (Ap Ak (puOk_cons is_ixDsc.plain Awu puOk_nil) (fns_cons is_cfDsc A0)) 8 (fun x=>.leaf (decide ((bif x.1.any (Gi x.2.1.2) then (x.1.findIdx (Gi x.2.1.2):Int) else -1)≥0),())) (fun x=>by kernel_rfl) fun x _ _=>Abr _ _
def cbE (r:Int) (o:List (TCT A4)):Int:=bif !St.inR r 1 16384 then 3 else bif decide ((o.length:Int)>12) then 6 else bif o.any cbP then 2 else 0
abbrev A6l:PureT:=Bj [cI,.sl A4] [cI] (fun _=>true) (fun x=>(cbE x.1 x.2.1,()))
def plCb2:List (Nat×PureT):=[(120,St.s_inR),(41,Afh)]
theorem puCb2:D3 Tryz.prog plCb2:=puOk_cons St.is_between2.plain St.q_between2 (puOk_cons is_cfDsc.plain Awv puOk_nil)
def Xf (r:Int) (o:List (TCT A4)):Tree (TCTs [cI]):=bif !St.inR r 1 16384 then .leaf (3,()) else bif decide ((o.length:Int)>12) then .leaf (6,()) else bif o.any (Gi ()) then .leaf (2,()) else .leaf (0,())
theorem A6m (r:Int) (o:List (TCT A4)):(Xf r o).sat (fun y=>y=(cbE r o,())):=by
 unfold Xf cbE
 show (bif !St.inR r 1 16384 then .leaf (3,()) else bif decide ((o.length:Int)>12) then .leaf (6,()) else bif o.any cbP then .leaf (2,()) else .leaf (0,()):Tree (TCTs [cI])).sat _
 cases !St.inR r 1 16384 <;> cases decide ((o.length:Int)>12) <;> cases o.any cbP <;> exact rfl
theorem An3:A6 Tryz.prog 48 A6l:=Bl (Ap Ak puCb2 (fns_cons is_ckBall (fns_cons is_vBall A0))) 5 (fun x=>Xf x.1 x.2.1) (fun x=>by kernel_rfl) fun _ _ _=>A6m _ _
end V
end Go.Proofs.YtlangijnealfjaaGreat
namespace Go.Proofs.YtlangijnealfjaaGreat
open Go.RowKit
namespace V
open St
theorem is_InWay:FnIs Tryz.prog (14,Tryz.f14):=⟨Tryz.func14,by kernel_rfl,by kernel_rfl⟩
theorem is_InWay1:FnIs Tryz.prog (49,Tryz.f49):=⟨Tryz.func49,by kernel_rfl,by kernel_rfl⟩
theorem is_Touched:FnIs Tryz.prog (60,Tryz.f60):=⟨Tryz.func60,by kernel_rfl,by kernel_rfl⟩
theorem is_May:FnIs Tryz.prog (23,Tryz.f23):=⟨Tryz.func23,by kernel_rfl,by kernel_rfl⟩
abbrev kP6:List SK:=[.d cI,.d cI]
abbrev Wm (p:SKTs kP6):TCT cPt:=(p.1,p.2.1,())
def iwD (a b:TCT cPt) (r:Int) (d:TCT A4):Bool:=decide ((LsR a.1 a.2.1 b.1 b.2.1 d.1.1 d.1.2.1 (W64 (r+d.2.1))).1<0)
def iwF (p:TCT A4→Bool):List (TCT A4)→Int→List Int
 | [],_=>[]
 | d::ds,i=>bif p d then i::iwF p ds (i+1) else iwF p ds (i+1)
noncomputable def Bbs:Code:=(Al (bodyOf Tryz.f14)).getD 0 .skip
def Bgp:List BK:=[(1,28,kP6),(2,28,kP6),(3,2,[.d cI])]
def A6n:Lay:={ keys:=[14,15,37,38,39],ks:=[.f 49 [] [.p 1 0 0 0,.p 2 0 0 0,.p 3 0 0 0],.o 3 cI,.d (.sl A4),.d cI,.d cI],bs:=Bgp,n:=53,nx:=1000,marks:=[] }
def Bgq:Lay:={ keys:=[15],ks:=[.o 3 cI],bs:=[],n:=53,nx:=1000,marks:=[] }
def Abs:XE→Lay:=fun _=>Bgq
structure QIw where
 a:SKTs kP6
 b:SKTs kP6
 r:SKTs [.d cI]
 n:Int
 ds:List (TCT A4)
def A6o (q:QIw) (i:Int) (o:List Int):A6n.T:=((((),(),(),(),()),o,q.ds,q.n,i,()),(q.a,q.b,q.r,()))
def A6p (o:List Int):A1 Abs:=⟨.exit 0,((o,()),())⟩
def A6q (q:QIw) (i:Int) (o:List Int):Tree (A6n.T⊕A1 Abs) :=
 bif decide (i<q.n) then bif decide (0≤i∧i<(q.ds.length:Int)) then bif iwD (Wm q.a) (Wm q.b) q.r.1 (As q.ds (Int.toNat i) (Aq A4)) then bif Df o [i] 8 then .leaf (.inl (A6o q (W64 (i+1)) (o++[i]))) else .fail else .leaf (.inl (A6o q (W64 (i+1)) o)) else .fail else .leaf (.inr (A6p o))
def A29 (x:A6n.T):Tree (A6n.T⊕A1 Abs):=A6q ⟨x.2.1,x.2.2.1,x.2.2.2.1,x.1.2.2.2.1,x.1.2.2.1⟩ x.1.2.2.2.2.1 x.1.2.1
def An4 (x:A6n.T):Nat:=(x.1.2.2.1:List (TCT A4)).length+1
noncomputable def Bbt:Ctx:=ctx Tryz.prog [(50,Amt)] [(49,Tryz.f49)]
theorem An5:CtxOk Bbt:=Ap Ak (puOk_cons is_Lies.plain B6d puOk_nil) (fns_cons is_InWay1 A0)
theorem Bgr:Aw Tryz.prog 14 Bbs (Ar A6n Abs (D7 [.exit 0] A29 An4)):=B8 An5 7 _ A6n Abs (fun _=>Nat.le_refl _) [.exit 0] A29 An4 (fun g=>by kernel_rfl)
theorem Afi {E:Type} (p:TCT A4→Bool) (ex:List Int→E):∀ (l:List (TCT A4)) (i:Nat) (s:List Int),Rh (fun i x s=>some (.inl (bif p x then s++[(i:Int)] else s))) (fun s=>some (ex s)) i l s=some (ex (s++iwF p l (i:Int)))
 | [],_,s=>by simp only [Rh,iwF,List.append_nil]
 | x::l,i,s=>by
  simp only [Rh]
  rw [Afi p ex l (i+1)]
  rw [show ((i+1:Nat):Int)=(i:Int)+1 from rfl,show iwF p (x::l) (i:Int)=(bif p x then (i:Int)::iwF p l ((i:Int)+1) else iwF p l ((i:Int)+1)) from rfl]
  cases p x with
  | true=>simp only [cond_true,List.append_assoc,List.singleton_append]
  | false=>simp only [cond_false]
theorem Bgs {o:List Int} {i:Int} (h:o.length≤100000):Df o [i] 8=true:=by
 rw [G2];exact decide_eq_true (by simp only [List.length_cons,List.length_nil];omega)
theorem Bbu {q:QIw} (hn:q.n=(q.ds.length:Int)) (hl:q.ds.length≤60000):iter A29 (q.ds.length+1) (A6o q 0 [])=some (A6p (iwF (iwD (Wm q.a) (Wm q.b) q.r.1) q.ds 0)):=by
 have key:=Fv (st:=A29) q.ds (fun i o=>A6o q (i:Int) o) (fun i x o=>some (.inl (bif iwD (Wm q.a) (Wm q.b) q.r.1 x then o++[(i:Int)] else o))) (fun o=>some (A6p o)) (fun i o=>o.length≤i)
  (fun i o hi hI=>by
   simp only
   refine ⟨?_,?_⟩
   ·show (A6q q (i:Int) o).run=_
    unfold A6q
    rw [hn,decide_eq_true (show (i:Int)<(q.ds.length:Int) by omega),decide_eq_true (show 0≤(i:Int)∧(i:Int)<(q.ds.length:Int) by omega),show Int.toNat (i:Int)=i by omega,De hi,Be (n:=(i:Int)+1) (by omega) (by omega),Bgs (by omega)]
    simp only [cond_true]
    cases iwD (Wm q.a) (Wm q.b) q.r.1 q.ds[i] <;> rfl
   ·cases iwD (Wm q.a) (Wm q.b) q.r.1 q.ds[i] with
    | true=>simp only [cond_true,List.length_append,List.length_singleton];omega
    | false=>simp only [cond_false];omega)
  (fun o e hI he=>by
   cases he
   show (A6q q (q.ds.length:Int) o).run=_
   unfold A6q
   rw [hn,decide_eq_false (show ¬ (q.ds.length:Int)<(q.ds.length:Int) by omega)]
   rfl)
  q.ds.length 0 [] (A6p (iwF (iwD (Wm q.a) (Wm q.b) q.r.1) q.ds 0)) (q.ds.length+1) (by omega) (by omega) (Nat.zero_le _) (by rw [List.drop_zero,Afi,List.nil_append];rfl)
 exact key
def Lo (l:TCT Am) (a b:TCT cPt) (r:Int) (o:List (TCT A4)):Int:=bif Cp l != 0 then Cp l else bif Hv a.1 a.2.1 != 0 then 2 else bif Hv b.1 b.2.1 != 0 then 2 else cbE r o
def Wn (l:TCT Am) (a b:TCT cPt) (r:Int) (o:List (TCT A4)):List Int:=bif Lo l a b r o==0 then iwF (iwD a b r) (By l++o) 0 else []
abbrev Aww:PureT:=Bj [Am,cPt,cPt,cI,.sl A4] [.sl cI,cI] (fun x=>decide ((x.1.1.size:Int)≤B7 .i64)) (fun x=>(Wn x.1 x.2.1 x.2.2.1 x.2.2.2.1 x.2.2.2.2.1,Lo x.1 x.2.1 x.2.2.1 x.2.2.2.1 x.2.2.2.2.1,()))
def plIw:List (Nat×PureT):=(105,Vg)::(52,Mh)::(70,Kp)::(48,A6l)::(51,A6i)::[]
theorem puIw:D3 Tryz.prog plIw:=puOk_cons is_lCheck.plain Rv (puOk_cons is_lposts.plain A4g (puOk_cons K7.plain Ml (puOk_cons is_ckBall.plain An3 (puOk_cons is_Concat.plain Amz puOk_nil))))
abbrev TIw:=Tree (TCTs [.sl cI,cI])
def B6e (a b:TCT cPt) (r:Int) (ds:List (TCT A4)):Option (A1 Abs):=iter A29 (ds.length+1) (A6o ⟨a,b,(r,()),(ds.length:Int),ds⟩ 0 [])
def Awx (l:TCT Am) (a b:TCT cPt) (r:Int) (o:List (TCT A4)):TIw:=bif cbE r o != 0 then .leaf ([],cbE r o,()) else bif decide ((B2 l).length≤1000) then bif cc2 [By l,o] then bif isE (.exit 0) (B6e a b r (ccV [By l,o])) then .leaf ((C2 (.exit 0) (B6e a b r (ccV [By l,o]))).1.1,0,()) else .fail else .fail else .fail
def B6f (l:TCT Am) (a b:TCT cPt) (r:Int) (o:List (TCT A4)):TIw:=szT l (bif Cp l != 0 then bif Cp l != 0 then .leaf ([],Cp l,()) else Awx l a b r o else bif Hv a.1 a.2.1 != 0 then .leaf ([],2,()) else bif Hv b.1 b.2.1 != 0 then .leaf ([],2,()) else Awx l a b r o)
noncomputable def Bgt:Ctx:=G4 Tryz.prog plIw [(14,Tryz.f14),(47,Tryz.f47)] [((14,10),Ar A6n Abs (D7 [.exit 0] A29 An4))]
theorem Awy:CtxOk Bgt:=Bs Ak puIw (fns_cons is_InWay (fns_cons is_lchk A0)) (A8 (Cc (by kernel_rfl) (by kernel_rfl) Bgr (14,Tryz.f14) (List.mem_singleton.2 rfl)) (A8 (fun d _ g hg=>nomatch (show none=some g from hg)) Dd))
theorem An6 {l:TCT Am} (h:Cp l=0):(By l).length≤25:=by
 have:=(Rx h).1
 unfold By
 rw [List.length_append,Rt]
 simp only [List.length_singleton]
 omega
theorem B6g {r:Int} {o:List (TCT A4)} (h:cbE r o=0):o.length≤12:=by
 unfold cbE at h
 cases h1:!St.inR r 1 16384 with
 | true=>rw [h1] at h;cases h
 | false =>
  cases h2:decide ((o.length:Int)>12) with
  | true=>rw [h1,h2] at h;cases h
  | false =>
   have:=of_decide_eq_false h2
   omega
theorem Awz {l:TCT Am} {a b:TCT cPt} {r:Int} {o:List (TCT A4)} (h:Cp l=0) (ha:Hv a.1 a.2.1=0) (hb:Hv b.1 b.2.1=0):(Awx l a b r o).sat (fun y=>y=(Wn l a b r o,Lo l a b r o,())):=by
 have e:Lo l a b r o=cbE r o:=by unfold Lo;rw [h,ha,hb];rfl
 unfold Awx Wn
 rw [e]
 have h12:=(Rx h).1
 have hp:=An6 h
 cases hc:cbE r o != 0 with
 | true =>
  have hc':(cbE r o==0)=false:=by simpa using hc
  rw [hc']
  exact An rfl
 | false =>
  have hc':=bne_eq_false_iff_eq.1 hc
  have hl:=B6g hc'
  rw [cond_false,decide_eq_true (show (B2 l).length≤1000 by omega),show cc2 [By l,o]=true from decide_eq_true (show (By l).length+o.length≤60000 by omega),cond_true,cond_true]
  have hv:ccV [By l,o]=By l++o:=rfl
  have hll:(By l++o).length≤60000:=by rw [List.length_append];omega
  have hy:B6e a b r (ccV [By l,o])=some (A6p (iwF (iwD a b r) (By l++o) 0)):=by
   rw [hv]
   exact Bbu (q:=⟨a,b,(r,()),((By l++o).length:Int),By l++o⟩) rfl hll
  rw [hy,hc']
  exact An rfl
theorem Ax0 {l:TCT Am} {a b:TCT cPt} {r:Int} {o:List (TCT A4)} (hs:(l.1.size:Int)≤B7 .i64):(B6f l a b r o).sat (fun y=>y=(Wn l a b r o,Lo l a b r o,())):=by
 unfold B6f
 rw [Ei hs]
 cases h:Cp l != 0 with
 | true =>
  have e:Lo l a b r o=Cp l:=by unfold Lo;rw [h];rfl
  have h':(Cp l==0)=false:=by simpa using h
  unfold Wn
  rw [e,h']
  exact An rfl
 | false =>
  have h':=bne_eq_false_iff_eq.1 h
  rw [cond_false]
  cases ha:Hv a.1 a.2.1 != 0 with
  | true =>
   have e:Lo l a b r o=2:=by unfold Lo;rw [h,ha];rfl
   unfold Wn
   rw [e]
   exact An rfl
  | false =>
   rw [cond_false]
   cases hb:Hv b.1 b.2.1 != 0 with
   | true =>
    have e:Lo l a b r o=2:=by unfold Lo;rw [h,ha,hb];rfl
    unfold Wn
    rw [e]
    exact An rfl
   | false=>exact Awz h' (bne_eq_false_iff_eq.1 ha) (bne_eq_false_iff_eq.1 hb)
theorem Ax1:A6 Tryz.prog 14 Aww:=Bl Awy 10 (fun x=>B6f x.1 x.2.1 x.2.2.1 x.2.2.2.1 x.2.2.2.2.1) (fun x=>by kernel_rfl) fun x hok _=>Ax0 (of_decide_eq_true hok)
abbrev Ajh:PureT:=Bj [Am,cPt,cI,.sl A4] [.sl cI,cI] (fun x=>decide ((x.1.1.size:Int)≤B7 .i64)) (fun x=>(Wn x.1 x.2.1 x.2.1 x.2.2.1 x.2.2.2.1,Lo x.1 x.2.1 x.2.1 x.2.2.1 x.2.2.2.1,()))
theorem Aji:A6 Tryz.prog 60 Ajh:=Bl (Ap Ak (puOk_cons is_InWay.plain Ax1 puOk_nil) (fns_cons is_Touched A0)) 5 (fun x=>szT x.1 (.leaf (Wn x.1 x.2.1 x.2.1 x.2.2.1 x.2.2.2.1,Lo x.1 x.2.1 x.2.1 x.2.2.1 x.2.2.2.1,()))) (fun x=>by kernel_rfl) fun x hok _=>by
  rw [Ei (of_decide_eq_true hok)];exact An rfl
def mayE (l:TCT Am) (p:TCT cPt) (r:Int) (o:List (TCT A4)):Int:=Lo l p p r o
def mayB (l:TCT Am) (p:TCT cPt) (r:Int) (o:List (TCT A4)):Bool:=bif Lo l p p r o != 0 then false else ((Wn l p p r o).length:Int)==0&&onB l p
abbrev An7:PureT:=Bj [Am,cPt,cI,.sl A4] [.b,cI] (fun x=>decide ((x.1.1.size:Int)≤B7 .i64)) (fun x=>(mayB x.1 x.2.1 x.2.2.1 x.2.2.2.1,mayE x.1 x.2.1 x.2.2.1 x.2.2.2.1,()))
abbrev Bgu:=Tree (TCTs [.b,cI])
def An8 (l:TCT Am) (p:TCT cPt) (r:Int) (o:List (TCT A4)):Bgu:=szT l (bif Lo l p p r o != 0 then .leaf (false,Lo l p p r o,()) else bif ((Wn l p p r o).length:Int)==0 then bif St.inR p.1 0 l.2.1 then .leaf (St.inR p.2.1 0 l.2.2.1,0,()) else .leaf (false,0,()) else .leaf (false,0,()))
theorem An9 {l:TCT Am} {p:TCT cPt} {r:Int} {o:List (TCT A4)} (hs:(l.1.size:Int)≤B7 .i64):(An8 l p r o).sat (fun y=>y=(mayB l p r o,mayE l p r o,())):=by
 unfold An8 mayB mayE
 rw [Ei hs]
 cases h:Lo l p p r o != 0 with
 | true=>exact An rfl
 | false =>
  have h':=bne_eq_false_iff_eq.1 h
  rw [h']
  cases ((Wn l p p r o).length:Int)==0 with
  | false=>exact An rfl
  | true =>
   unfold onB
   cases St.inR p.1 0 l.2.1 <;> exact An rfl
theorem B42:A6 Tryz.prog 23 An7:=Bl (Ap Ak (puOk_cons is_Touched.plain Aji (puOk_cons is_between2.plain q_between2 puOk_nil)) (fns_cons is_May (fns_cons is_lon A0))) 5 (fun x=>An8 x.1 x.2.1 x.2.2.1 x.2.2.2.1) (fun x=>by kernel_rfl) fun x hok _=>An9 (of_decide_eq_true hok)
end V
end Go.Proofs.YtlangijnealfjaaGreat
namespace Go.Proofs.YtlangijnealfjaaGreat
open Go.RowKit
namespace V
namespace Tp
open St
theorem is_green:FnIs Tryz.prog (8,Tryz.f8):=⟨Tryz.func8,by kernel_rfl,by kernel_rfl⟩
theorem is_round:FnIs Tryz.prog (21,Tryz.f21):=⟨Tryz.func21,by kernel_rfl,by kernel_rfl⟩
theorem is_spot:FnIs Tryz.prog (9,Tryz.f9):=⟨Tryz.func9,by kernel_rfl,by kernel_rfl⟩
theorem is_blow:FnIs Tryz.prog (29,Tryz.f29):=⟨Tryz.func29,by kernel_rfl,by kernel_rfl⟩
theorem is_set:FnIs Tryz.prog (27,Tryz.f27):=⟨Tryz.func27,by kernel_rfl,by kernel_rfl⟩
abbrev Bbv:TC:=.i .u16
abbrev F2:TC:=.st [Bbv,Bbv]
def B43:TCT Bv:=(50000,40000,6000,500,false,())
def B44:TCT Bv:=(30000,100000,6200,500,true,())
def Bgv:TCT A4:=((50000,100000,()),1200,())
def nameG:ByteArray:=⟨#[103,114,101,101,110]⟩
def grn (d s:Int):TCT Am:=(nameG,100000,200000,5000,[B43,B44],Bgv,1,1,[(d,s,0,())],())
abbrev A47:PureT:=Bj [cI,cI] [Am] (fun _=>true) (fun x=>(grn x.1 x.2.1,()))
theorem Afj:A6 Tryz.prog 8 A47:=Bl (Ap Ak puOk_nil (fns_cons is_green A0)) 5 (fun x=>.leaf (grn x.1 x.2.1,())) (fun x=>by kernel_rfl) fun _ _ _=>An rfl
def Tu:TCT A3:=(450,2946,())
abbrev Afk:PureT:=Bj [] [A3] (fun _=>true) (fun _=>(Tu,()))
theorem Ax2:A6 Tryz.prog 21 Afk:=Bl (Ap Ak puOk_nil (fns_cons is_round A0)) 5 (fun x=>.leaf (Tu,())) (fun x=>by kernel_rfl) fun _ _ _=>An rfl
def spt (d:TCT F2):TCT cPt:=(W64 (Int.tdiv (W64 (W64 d.1*3)) 2),W64 (W64 d.2.1*3),())
abbrev Ana:PureT:=Bj [F2] [cPt] (fun _=>true) (fun x=>(spt x.1,()))
theorem B6h:A6 Tryz.prog 9 Ana:=Bl (Ap Ak puOk_nil (fns_cons is_spot A0)) 5 (fun x=>.leaf (spt x.1,())) (fun x=>by kernel_rfl) fun _ _ _=>An rfl
end Tp
end V
end Go.Proofs.YtlangijnealfjaaGreat
namespace Go.Proofs.YtlangijnealfjaaGreat
open Go.RowKit
namespace V
namespace Tp
open St
abbrev kGb:List SK:=[.d .s,.d cI,.d cI,.d cI,.d (.sl Bv),.d cI,.d cI,.d cI,.d cI,.d cI,.d (.sl D8),.o 68 A3,.d cI,.d cI]
noncomputable def B6i:Code:=(Al (bodyOf Tryz.f27)).getD 0 .skip
def B45:List BK:=[(1,64,kGr),(2,76,kSt),(8,64,kGb)]
def Rk:Lay:={ keys:=[2,8,9,11,12,13,14],ks:=[.d (.sl F2),.p 1 0 0 0,.p 2 0 0 0,.p 8 0 0 0,.o 28 cPt,.o 30 A4,.d cI],bs:=B45,n:=97,nx:=1000,marks:=[] }
def Bbw:Lay:={ keys:=[2,8,9,11,12],ks:=[.d (.sl F2),.p 1 0 0 0,.p 2 0 0 0,.p 8 0 0 0,.o 28 cPt],bs:=B45,n:=97,nx:=1000,marks:=[] }
def B6j:Lay:={ keys:=[8,9,10],ks:=[.p 1 0 0 0,.p 2 0 0 0,.d .b],bs:=[(1,64,kGb),(2,76,kSt)],n:=97,nx:=1000,marks:=[] }
def Nv:XE→Lay:=fun e=>match e with | .ret=>B6j | _=>Bbw
def plSet5:List (Nat×PureT):=(23,An7)::(8,A47)::(21,Afk)::(9,Ana)::(24,B4n)::[]
theorem puSet5:D3 Tryz.prog plSet5:=puOk_cons is_May.plain B42 (puOk_cons is_green.plain Afj (puOk_cons is_round.plain Ax2 (puOk_cons is_spot.plain B6h (puOk_cons is_sLie.plain Bdd puOk_nil))))
noncomputable def B6k:Ctx:=ctx Tryz.prog plSet5 []
theorem Ajj:CtxOk B6k:=Ap Ak puSet5 A0
abbrev GbT:Type:=SKTs kGb
def lwb (g:GbT):TCT Am:=(g.1,g.2.1,g.2.2.1,g.2.2.2.1,g.2.2.2.2.1,((g.2.2.2.2.2.1,g.2.2.2.2.2.2.1,()),g.2.2.2.2.2.2.2.1,()),g.2.2.2.2.2.2.2.2.1,g.2.2.2.2.2.2.2.2.2.1,g.2.2.2.2.2.2.2.2.2.2.1,())
def blb (g:GbT):List (TCT A3):=g.2.2.2.2.2.2.2.2.2.2.2.1
def wbl (g:GbT) (b:List (TCT A3)):GbT:=(g.1,g.2.1,g.2.2.1,g.2.2.2.1,g.2.2.2.2.1,g.2.2.2.2.2.1,g.2.2.2.2.2.2.1,g.2.2.2.2.2.2.2.1,g.2.2.2.2.2.2.2.2.1,g.2.2.2.2.2.2.2.2.2.1,g.2.2.2.2.2.2.2.2.2.2.1,b,g.2.2.2.2.2.2.2.2.2.2.2.2.1,g.2.2.2.2.2.2.2.2.2.2.2.2.2.1,())
structure QSt where
 l:List (TCT F2)
 g0:SKTs kGr
 s0:SKTs kSt
def Nw (p:TCT cPt):TCT A4:=((p.1,p.2.1,()),2946,())
def A48 (q:QSt) (g:GbT) (i:Int) (ps:List (TCT cPt)) (os:List (TCT A4)):Rk.T:=((q.l,(),(),(),ps,os,i,()),(q.g0,q.s0,g,()))
def A49 (q:QSt) (g:GbT) (ps:List (TCT cPt)):A1 Nv:=⟨.exit 0,((q.l,(),(),(),ps,()),(q.g0,q.s0,g,()))⟩
def Abt (g:GbT):A1 Nv:=⟨.ret,(((),(),false,()),(g,([],[],0,0,0,()),()))⟩
def Abu (q:QSt) (g:GbT) (i:Int) (ps:List (TCT cPt)) (os:List (TCT A4)) (p:TCT cPt):Tree (Rk.T⊕A1 Nv) :=
 bif mayE (lwb g) p 2946 os != 0 then .leaf (.inr (Abt g)) else bif !mayB (lwb g) p 2946 os then .leaf (.inr (Abt g)) else
 bif Df (blb g) [Tu] 16 then bif Df ps [p] 16 then bif Df os [Nw p] 24 then .leaf (.inl (A48 q (wbl g (blb g++[Tu])) (W64 (i+1)) (ps++[p]) (os++[Nw p]))) else .fail else .fail else .fail
def Xg (q:QSt) (g:GbT) (i:Int) (ps:List (TCT cPt)) (os:List (TCT A4)):Tree (Rk.T⊕A1 Nv) :=
 bif decide (i<(q.l.length:Int)) then inN q.l.length i (szT (lwb g) (Abu q g i ps os (spt (As q.l (Int.toNat i) (Aq F2))))) else .leaf (.inr (A49 q g ps))
def Tv (x:Rk.T):Tree (Rk.T⊕A1 Nv):=Xg ⟨x.1.1,x.2.1,x.2.2.1⟩ x.2.2.2.1 x.1.2.2.2.2.2.2.1 x.1.2.2.2.2.1 x.1.2.2.2.2.2.1
def Abv (x:Rk.T):Nat:=(x.1.1:List (TCT F2)).length+1
theorem Bbx:Aw Tryz.prog 27 B6i (Ar Rk Nv (D7 [.ret,.exit 0] Tv Abv)):=B8 Ajj 7 _ Rk Nv (fun e=>by cases e <;> exact Nat.le_refl _) [.ret,.exit 0] Tv Abv (fun g=>by kernel_rfl)
def setF (w:TCT Am) (l:List (TCT F2)) (i:Nat) (ps:List (TCT cPt)):List (TCT cPt)⊕List (TCT cPt) :=
 bif mayE w (spt (As l i (Aq F2))) 2946 (ps.map Nw)!=0 then .inr ps else bif !mayB w (spt (As l i (Aq F2))) 2946 (ps.map Nw) then .inr ps else .inl (ps++[spt (As l i (Aq F2))])
def gbN (g:GbT) (n:Nat):GbT:=wbl g (List.replicate n Tu)
def Xh (q:QSt) (g:GbT):List (TCT cPt)⊕List (TCT cPt)→A1 Nv
 | .inl ps=>A49 q (gbN g ps.length) ps
 | .inr ps=>Abt (gbN g ps.length)
theorem B6l {q:QSt} {g:GbT} (hl:q.l.length≤1000) (hs:((lwb g).1.size:Int)≤B7 .i64):iter Tv (q.l.length+1) (A48 q (gbN g 0) 0 [] [])=some (Xh q g (Ax (setF (lwb g) q.l) 0 q.l.length [])):=by
 have key:=J6 (st:=Tv) q.l.length (fun i ps=>A48 q (gbN g i) (i:Int) ps (ps.map Nw)) (setF (lwb g) q.l) (Xh q g) (fun i ps=>ps.length=i)
  (fun i ps hi hI=>by
   show (Xg q (gbN g i) (i:Int) ps (ps.map Nw)).run=_
   unfold Xg inN
   rw [decide_eq_true (show (i:Int)<(q.l.length:Int) by omega),decide_eq_true (show 0≤(i:Int)∧(i:Int)<(q.l.length:Int) by omega),show Int.toNat (i:Int)=i by omega]
   show (szT (lwb g) (Abu q (gbN g i) (i:Int) ps (ps.map Nw) (spt (As q.l i (Aq F2)))):Tree _).run=_
   rw [Ei hs]
   unfold Abu setF
   rw [show lwb (gbN g i)=lwb g from rfl]
   generalize spt (As q.l i (Aq F2))=p
   cases mayE (lwb g) p 2946 (ps.map Nw)!=0 with
   | true=>simp only [cond_true,Aq0,Xh,hI];rfl
   | false =>
    cases !mayB (lwb g) p 2946 (ps.map Nw) with
    | true=>simp only [cond_true,cond_false,Aq0,Xh,hI];rfl
    | false =>
     rw [Be (n:=(i:Int)+1) (by omega) (by omega)]
     have e1:Df (blb (gbN g i)) [Tu] 16=true:=by
      rw [G2];exact decide_eq_true (by show (((List.replicate i Tu).length+[Tu].length:Nat):Int)*16≤_;rw [List.length_replicate];simp only [List.length_singleton];omega)
     have e2:Df ps [p] 16=true:=by rw [G2];exact decide_eq_true (by simp only [List.length_singleton];omega)
     have e3:Df (ps.map Nw) [Nw p] 24=true:=by rw [G2];exact decide_eq_true (by simp only [List.length_singleton,List.length_map];omega)
     have e4:wbl (gbN g i) (blb (gbN g i)++[Tu])=gbN g (i+1):=by
      show wbl g (List.replicate i Tu++[Tu])=wbl g (List.replicate (i+1) Tu)
      rw [List.replicate_succ']
     have e5:ps.map Nw++[Nw p]=(ps++[p]).map Nw:=by rw [List.map_append];rfl
     rw [e1,e2,e3,e4,e5]
     rfl)
  (fun i ps ps' _ hI h=>by
   unfold setF at h
   cases h1:mayE (lwb g) (spt (As q.l i (Aq F2))) 2946 (ps.map Nw)!=0 with
   | true=>rw [h1] at h;cases h
   | false =>
    cases h2:!mayB (lwb g) (spt (As q.l i (Aq F2))) 2946 (ps.map Nw) with
    | true=>rw [h1,h2] at h;cases h
    | false =>
     rw [h1,h2] at h
     cases h
     rw [List.length_append,List.length_singleton,hI])
  (fun ps hI=>by
   show (Xg q (gbN g q.l.length) (q.l.length:Int) ps (ps.map Nw)).run=_
   unfold Xg
   rw [decide_eq_false (show ¬ (q.l.length:Int)<(q.l.length:Int) by omega)]
   show some (Sum.inr (A49 q (gbN g q.l.length) ps))=some (Sum.inr (A49 q (gbN g ps.length) ps))
   rw [hI]) q.l.length 0 [] (by omega) rfl
 exact key
noncomputable def Anb:Ctx:=G4 Tryz.prog plSet5 [(27,Tryz.f27)] [((27,5),Ar Rk Nv (D7 [.ret,.exit 0] Tv Abv))]
theorem Anc:CtxOk Anb:=Bs Ak puSet5 (fns_cons is_set A0) (Cc (by kernel_rfl) (by kernel_rfl) Bbx)
def gb0 (d s:Int) (x:TCT Cj):GbT:=(nameG,100000,200000,5000,[B43,B44],50000,100000,1200,1,1,[(d,s,0,())],[],x.1,x.2.1,())
def g00:SKTs kGr:=(⟨#[]⟩,0,0,0,[],0,0,0,0,0,[],[],0,0,())
def s00:SKTs kSt:=([],[],0,0,0,())
def Afl (d s:Int) (l:List (TCT F2)) (x:TCT Cj):Option (A1 Nv):=iter Tv (l.length+1) (A48 ⟨l,g00,s00⟩ (gb0 d s x) 0 [] [])
abbrev Ax3:=Tree (TCTs [cGr,cSt,.b])
def grb (g:GbT):TCT cGr:=(lwb g,blb g,(g.2.2.2.2.2.2.2.2.2.2.2.2.1,g.2.2.2.2.2.2.2.2.2.2.2.2.2.1,()),())
def And (l:List (TCT F2)) (r:TCTs [cSt,cI]):Bool:=r.2.1==0&&(((msT r.1).length:Int)==(l.length:Int)&&((osT r.1).length:Int)==(l.length:Int))
def Ane (l:List (TCT F2)) (g:GbT) (r:TCTs [cSt,cI]):Ax3:=bif r.2.1==0 then bif ((msT r.1).length:Int)==(l.length:Int) then .leaf (grb g,St.etaS r.1,((osT r.1).length:Int)==(l.length:Int),()) else .leaf (grb g,St.etaS r.1,false,()) else .leaf (grb g,St.etaS r.1,false,())
def Anf (g:GbT) (l:List (TCT F2)) (ps:List (TCT cPt)):Ax3:=szT (lwb g) (Ane l g (Hd (grb g) ps))
def Ang (y:Option (A1 Nv)):Ax3:=bif isE .ret y then .leaf (grb (C2 .ret y).2.1,(C2 .ret y).2.2.1,(C2 .ret y).1.2.2.1,()) else bif isE (.exit 0) y then Anf (C2 (.exit 0) y).2.2.2.1 (C2 (.exit 0) y).1.1 (C2 (.exit 0) y).1.2.2.2.2.1 else .fail
theorem Anh (x:TCTs [cI,cI,.sl F2,Cj]):D1 Anb 7 (.fn 27) (E7 [cI,cI,.sl F2,Cj] x) Ce 0 (Hx Anb.P [cGr,cSt,.b])=Ang (Afl x.1 x.2.1 x.2.2.1 x.2.2.2.1):=by kernel_rfl
def gN (d s:Int) (x:TCT Cj) (n:Nat):TCT cGr:=(grn d s,List.replicate n Tu,(x.1,x.2.1,()),())
abbrev Ax4:Type:=List (TCT cPt)⊕List (TCT cPt)
def Tw (d s:Int) (l:List (TCT F2)):Ax4:=Ax (setF (grn d s) l) 0 l.length []
def sN:Ax4→Nat
 | .inl p=>p.length
 | .inr p=>p.length
def sS (d s:Int) (x:TCT Cj):Ax4→TCT cSt
 | .inl p=>St.etaS (Hd (gN d s x p.length) p).1
 | .inr _=>zS
def sB (d s:Int) (x:TCT Cj) (l:List (TCT F2)):Ax4→Bool
 | .inl p=>And l (Hd (gN d s x p.length) p)
 | .inr _=>false
abbrev B46:PureT:=Bj [cI,cI,.sl F2,Cj] [cGr,cSt,.b] (fun x=>decide (x.2.2.1.length≤1000)) (fun x=>(gN x.1 x.2.1 x.2.2.2.1 (sN (Tw x.1 x.2.1 x.2.2.1)),sS x.1 x.2.1 x.2.2.2.1 (Tw x.1 x.2.1 x.2.2.1),sB x.1 x.2.1 x.2.2.2.1 x.2.2.1 (Tw x.1 x.2.1 x.2.2.1),()))
theorem Xi (d s:Int):((grn d s).1.size:Int)≤B7 .i64:=by
 show ((nameG.size:Nat):Int)≤_
 decide
theorem Ani {d s:Int} {l:List (TCT F2)} {x:TCT Cj} (hl:l.length≤1000):(Ang (Afl d s l x)).sat (fun y=>y=(gN d s x (sN (Tw d s l)),sS d s x (Tw d s l),sB d s x l (Tw d s l),())):=by
 have e:Afl d s l x=some (Xh ⟨l,g00,s00⟩ (gb0 d s x) (Tw d s l)):=B6l (q:=⟨l,g00,s00⟩) (g:=gb0 d s x) hl (Xi d s)
 rw [e]
 cases Tw d s l with
 | inr ps=>exact An rfl
 | inl ps =>
  show (Anf (gbN (gb0 d s x) ps.length) l ps).sat _
  unfold Anf
  rw [Ei (show (((lwb (gbN (gb0 d s x) ps.length)).1.size:Nat):Int)≤_ from Xi d s)]
  show (Ane l (gbN (gb0 d s x) ps.length) (Hd (gN d s x ps.length) ps)).sat _
  unfold Ane
  show (bif (Hd (gN d s x ps.length) ps).2.1==0 then bif ((msT (Hd (gN d s x ps.length) ps).1).length:Int)==(l.length:Int) then .leaf (gN d s x ps.length,St.etaS (Hd (gN d s x ps.length) ps).1,((osT (Hd (gN d s x ps.length) ps).1).length:Int)==(l.length:Int),()) else .leaf (gN d s x ps.length,St.etaS (Hd (gN d s x ps.length) ps).1,false,()) else .leaf (gN d s x ps.length,St.etaS (Hd (gN d s x ps.length) ps).1,false,()):Ax3).sat (fun y=>y=(gN d s x ps.length,St.etaS (Hd (gN d s x ps.length) ps).1,And l (Hd (gN d s x ps.length) ps),()))
  unfold And
  cases (Hd (gN d s x ps.length) ps).2.1==0 <;> cases ((msT (Hd (gN d s x ps.length) ps).1).length:Int)==(l.length:Int) <;> exact An rfl
theorem B47:A6 Tryz.prog 27 B46:=Bl Anc 7 (fun x=>Ang (Afl x.1 x.2.1 x.2.2.1 x.2.2.2.1)) Anh fun x hok _=>Ani (of_decide_eq_true hok)
end Tp
end V
end Go.Proofs.YtlangijnealfjaaGreat
namespace Go.Proofs.YtlangijnealfjaaGreat
open Go.RowKit
namespace V
namespace Tp
open St
theorem is_works05:FnIs Tryz.prog (46,Tryz.f46):=⟨Tryz.func46,by kernel_rfl,by kernel_rfl⟩
abbrev P1:PureT:=Bj [] [.b] (fun _=>true) (fun _=>(true,()))
noncomputable def plWk:List (Nat×PureT):=[(70,Kp),(27,B46),(105,Vg)]
theorem puWk:D3 Tryz.prog plWk:=puOk_cons K7.plain Ml (puOk_cons is_set.plain B47 (puOk_cons is_lCheck.plain Rv puOk_nil))
theorem A2a:A6 Tryz.prog 46 P1:=A0h (L6 (u:=20) Ak puWk Ww) 40 (fun _=>by kernel_rfl)
abbrev Pu:TC:=.st [.i .i16,.i .i16,.i .u32,.i .u8]
def Me (w:TCT Pu) (b:Int):TCT cBl:=(b,(W64 w.1,(bif W64 w.1==0&&(W64 w.2.1==0&&true) then 1 else W64 w.2.1),()),W64 (1+Int.tmod (W64 w.2.2.1) 2097152),Int.tmod (W64 w.2.2.2.1) 5,())
abbrev B6m:PureT:=Bj [Pu,cI] [cBl] (fun _=>true) (fun x=>(Me x.1 x.2.1,()))
def Anj (w:TCT Pu) (b:Int):Tree (TCTs [cBl]):=bif W64 w.1==0&&(W64 w.2.1==0&&true) then .leaf ((b,(W64 w.1,1,()),W64 (1+Int.tmod (W64 w.2.2.1) 2097152),Int.tmod (W64 w.2.2.2.1) 5,()),()) else .leaf ((b,(W64 w.1,W64 w.2.1,()),W64 (1+Int.tmod (W64 w.2.2.1) 2097152),Int.tmod (W64 w.2.2.2.1) 5,()),())
theorem Ank (w:TCT Pu) (b:Int):(Anj w b).sat (fun y=>y=(Me w b,())):=by
 unfold Anj Me
 cases W64 w.1==0&&(W64 w.2.1==0&&true) <;> exact An rfl
theorem B6n:A6 Tryz.prog 29 B6m:=Bl (Ap Ak puOk_nil (fns_cons is_blow A0)) 5 (fun x=>Anj x.1 x.2.1) (fun x=>by kernel_rfl) fun x _ _=>Ank _ _
def B48 (g:TCT cGr):TCT cGr:=B7f (J5 g)
abbrev FGn:Type:=Int→Int→TCT Cj→List (TCT F2)→TCT cGr
abbrev FSs:Type:=Int→Int→TCT Cj→List (TCT F2)→TCT cSt
abbrev FBb:Type:=Int→Int→TCT Cj→List (TCT F2)→Bool
abbrev FBl:Type:=TCT Pu→Int→TCT cBl
abbrev FSk:Type:=TCT cGr→TCT cSt→TCT cBl→TkR
abbrev Bby (g:TCT cGr):Bool:=decide ((g.1.1.size:Int)≤B7 .i64)
def B49 (b:TCT cBl):TCT cBl:=(b.1,(b.2.1.1,b.2.1.2.1,()),b.2.2.1,b.2.2.2.1,())
abbrev Anl (G:FGn) (S:FSs) (B:FBb):PureT:=Bj [cI,cI,.sl F2,Cj] [cGr,cSt,.b] (fun x=>decide (x.2.2.1.length≤1000)) (fun x=>(B48 (G x.1 x.2.1 x.2.2.2.1 x.2.2.1),St.etaS (S x.1 x.2.1 x.2.2.2.1 x.2.2.1),B x.1 x.2.1 x.2.2.2.1 x.2.2.1,()))
abbrev Anm (W:FBl):PureT:=Bj [Pu,cI] [cBl] (fun _=>true) (fun x=>(B49 (W x.1 x.2.1),()))
abbrev Bbz (F:FSk):PureT:=Bj [cGr,cSt,cBl] [cSt,.sl cKn,cI] (fun x=>Bby x.1) (fun x=>A8g (F x.1 x.2.1 x.2.2.1))
def Lp:FGn:=fun d s x l=>gN d s x (sN (Tw d s l))
def N9:FSs:=fun d s x l=>sS d s x (Tw d s l)
def Nx:FBb:=fun d s x l=>sB d s x l (Tw d s l)
theorem B6o:A6 Tryz.prog 27 (Anl Lp N9 Nx):=B47
theorem B6p:A6 Tryz.prog 29 (Anm Me):=B6n
end Tp
end V
end Go.Proofs.YtlangijnealfjaaGreat
